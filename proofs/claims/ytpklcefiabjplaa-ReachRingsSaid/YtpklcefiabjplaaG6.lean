/- The graph that an edit changes: links and pins added and taken out; conditions as stated. -/
import Derived.Test.YtpklcefiabjplaaG4
import Derived.Test.YtpklcefiabjplaaG5
import Derived.Test.YtpklcefiabjplaaOg4
namespace Go.Proofs.Ytpklcefiabjplaa
open Go.ChangeShapes Go.WideShapes Go.ChangeAt Go.RowKit
set_option linter.unusedVariables false
set_option linter.unusedSimpArgs false
attribute [local go_sem] Og.Opt Og.OpY

/-- the graph at h: its three rows are the call's own, from block B on -/
structure GS (B : Nat) (w : World) (h : Nat) (va vb vc : Value) (ns : List Nd) (ls : List Lk) (ps : List Pn) : Prop where
  hB : B ≤ h
  hh : w.heap[h]? = some (.cells #[va, vb, vc] 33 (0, 0))
  na : w.ownsRow B 41 3 va ns.length (ns.flatMap cNd)
  la : w.ownsRow B 43 4 vb ls.length (ls.flatMap cLk)
  pa : w.ownsRow B 49 4 vc ps.length (ps.flatMap cPn)
theorem own_type {w : World} {B e m n g : Nat} {v : Value} {xs : List Value} (h : w.ownsRow B e m v n xs) (hg : v.ownBlock = some g) : ∃ cur, w.heap[g]? = some (.cells cur e (0, 0)) := by
  rcases h.2 with ⟨h0, _⟩ | ⟨g', cap, cur, hv, hb, hg', _⟩
  · rw [h0] at hg; cases hg
  · rw [hv] at hg
    have e2 : g' = g := by simpa [Value.ownBlock] using hg
    subst e2
    exact ⟨cur, hg'⟩
theorem own_ne {w : World} {B e m n B' e' m' n' : Nat} {v v' : Value} {xs xs' : List Value} (h : w.ownsRow B e m v n xs) (h' : w.ownsRow B' e' m' v' n' xs') (he : e ≠ e') : v.ownBlock = none ∨ v.ownBlock ≠ v'.ownBlock := by
  cases hv : v.ownBlock with
  | none => exact .inl rfl
  | some g =>
    refine .inr fun e2 => he ?_
    obtain ⟨c1, h1⟩ := own_type h hv
    obtain ⟨c2, h2⟩ := own_type h' e2.symm
    rw [h1] at h2
    cases h2
    rfl
theorem own_at {w : World} {B e m n g : Nat} {v : Value} {xs : List Value} {cur : Array Value} {e' : TypeId} (h : w.ownsRow B e m v n xs) (hg : w.heap[g]? = some (.cells cur e' (0, 0))) (he : e ≠ e') : v.ownBlock ≠ some g := fun hv => by
  obtain ⟨c1, h1⟩ := own_type h hv
  rw [h1] at hg
  cases hg
  exact he rfl
section
variable {B h : Nat} {va vb vc : Value} {ns : List Nd} {ls : List Lk} {ps : List Pn}
theorem GS.below {w w2 : World} (g : GS B w h va vb vc ns ls ps) (hb : Below w.heap.size w w2) : GS B w2 h va vb vc ns ls ps :=
  ⟨g.hB, heap_keep hb g.hh, own_below g.na hb, own_below g.la hb, own_below g.pa hb⟩
theorem heap_grown {w w2 : World} {g : Nat} {ob : Obj} {row : Option Nat} (hg : w.grownBy w2 row) (h : w.heap[g]? = some ob) (hne : some g ≠ row) : w2.heap[g]? = some ob := (hg.block g (Array.getElem?_eq_some_iff.1 h).1 hne).trans h
theorem setCell_cells {w : World} {g i : Nat} {cur : Array Value} {t : TypeId} {v : Value} (h : w.heap[g]? = some (.cells cur t (0, 0))) : (w.setCell ⟨g, i, none⟩ v).heap[g]? = some (.cells (cur.setIfInBounds i v) t (0, 0)) := by
  rw [setCell_eq_setRow w g i cur t (0, 0) v h]
  exact setRow_heap w g cur _ t (0, 0) h
/-- one row turned, and stored at its place -/
theorem GS.setN {w w2 : World} {v' : Value} {ms : List Nd} (g : GS B w h va vb vc ns ls ps) (hg : w.grownBy w2 va.ownBlock) (ho : w2.ownsRow B 41 3 v' ms.length (ms.flatMap cNd)) : GS B (w2.setCell ⟨h, 0, none⟩ v') h v' vb vc ms ls ps := by
  have hh := heap_grown hg g.hh (fun e => own_at g.na g.hh (by decide) e.symm)
  have key : ∀ {e m n : Nat} {v : Value} {xs : List Value}, w2.ownsRow B e m v n xs → e ≠ 33 → (w2.setCell ⟨h, 0, none⟩ v').ownsRow B e m v n xs := fun o he => ownsRow_setCell_other o (own_at o hh he) _
  exact ⟨g.hB, setCell_cells hh, key ho (by decide), key (g.la.kept hg (own_ne g.la g.na (by decide))) (by decide), key (g.pa.kept hg (own_ne g.pa g.na (by decide))) (by decide)⟩
theorem GS.setL {w w2 : World} {v' : Value} {ms : List Lk} (g : GS B w h va vb vc ns ls ps) (hg : w.grownBy w2 vb.ownBlock) (ho : w2.ownsRow B 43 4 v' ms.length (ms.flatMap cLk)) : GS B (w2.setCell ⟨h, 1, none⟩ v') h va v' vc ns ms ps := by
  have hh := heap_grown hg g.hh (fun e => own_at g.la g.hh (by decide) e.symm)
  have key : ∀ {e m n : Nat} {v : Value} {xs : List Value}, w2.ownsRow B e m v n xs → e ≠ 33 → (w2.setCell ⟨h, 1, none⟩ v').ownsRow B e m v n xs := fun o he => ownsRow_setCell_other o (own_at o hh he) _
  exact ⟨g.hB, setCell_cells hh, key (g.na.kept hg (own_ne g.na g.la (by decide))) (by decide), key ho (by decide), key (g.pa.kept hg (own_ne g.pa g.la (by decide))) (by decide)⟩
theorem GS.setP {w w2 : World} {v' : Value} {ms : List Pn} (g : GS B w h va vb vc ns ls ps) (hg : w.grownBy w2 vc.ownBlock) (ho : w2.ownsRow B 49 4 v' ms.length (ms.flatMap cPn)) : GS B (w2.setCell ⟨h, 2, none⟩ v') h va vb v' ns ls ms := by
  have hh := heap_grown hg g.hh (fun e => own_at g.pa g.hh (by decide) e.symm)
  have key : ∀ {e m n : Nat} {v : Value} {xs : List Value}, w2.ownsRow B e m v n xs → e ≠ 33 → (w2.setCell ⟨h, 2, none⟩ v').ownsRow B e m v n xs := fun o he => ownsRow_setCell_other o (own_at o hh he) _
  exact ⟨g.hB, setCell_cells hh, key (g.na.kept hg (own_ne g.na g.pa (by decide))) (by decide), key (g.la.kept hg (own_ne g.la g.pa (by decide))) (by decide), key ho (by decide)⟩
end
theorem wpList_absA {P : Program} {ops : Array Oper} {Q : Exit → Act → World → Prop} {o : Oper} {rest : List Oper} {a : Act} {w : World} {ob : Obj} {d : Nat} (hd : o.dst = some d) (h : ∀ W, W = w.alloc ob → wpList P ops Q (o :: rest) a W) : wpList P ops Q (o :: rest) a (w.alloc ob) := h _ rfl
theorem isAgg30 (w : World) : (isAgg 30).run Try.prog w = .ok false w := by kernel_rfl
theorem isAgg31 (w : World) : (isAgg 31).run Try.prog w = .ok false w := by kernel_rfl
theorem isAgg29 (w : World) : (isAgg 29).run Try.prog w = .ok false w := by kernel_rfl
theorem run_load1 {w : World} {b o : Nat} {ty : TypeId} {v : Value} (hg : ∀ w, (isAgg ty).run Try.prog w = .ok false w) (hc : w.cell? ⟨b, o, none⟩ = some v) : (loadVar ty ⟨b, o, none⟩).run Try.prog w = .ok v w := by
  unfold loadVar
  simp [hg, hc]
/-- the class of a region with an insertion: what is known as long as it is not done, and behind it -/
def CI (wq : World) (RB : Option Nat) (iI : Nat) (INS : Value → World → Prop) : Og.Joint.Cls := fun p vs w => wq.grownBy w RB ∧ (p iI = false → Below wq.heap.size wq w) ∧ (p iI = true → INS (vs iI) w)
theorem gtrans {a b c : World} {row : Option Nat} (h : a.grownBy b row) (k : b.grownBy c row) : a.grownBy c row := ⟨k.os.trans h.os, k.tape.trans h.tape, k.output.trans h.output, Nat.le_trans h.size k.size, fun j hj hne => (k.block j (Nat.lt_of_lt_of_le hj h.size) hne).trans (h.block j hj hne)⟩
section
variable {wq w : World} {RB : Option Nat} {iI i : Nat} {INS : Value → World → Prop} {p : Nat → Bool} {vs : Nat → Value} {v : Value}
theorem CI.other (h : i ≠ iI) (c : CI wq RB iI INS p vs w) : CI wq RB iI INS (Og.Joint.pSet p i) (Og.Joint.vSet vs i v) w := by
  obtain ⟨h1, h2, h3⟩ := c
  have e : Og.Joint.pSet p i iI = p iI := by simp [Og.Joint.pSet, Ne.symm h]
  have e2 : Og.Joint.vSet vs i v iI = vs iI := by simp [Og.Joint.vSet, Ne.symm h]
  exact ⟨h1, fun k => h2 (e ▸ k), fun k => by rw [e2]; exact h3 (e ▸ k)⟩
theorem CI.alloc (h : i ≠ iI) (hI : ∀ v w o, INS v w → INS v (w.alloc o)) (ob : Obj) (c : CI wq RB iI INS p vs w) : CI wq RB iI INS (Og.Joint.pSet p i) (Og.Joint.vSet vs i v) (w.alloc ob) := by
  obtain ⟨h1, h2, h3⟩ := c
  have e : Og.Joint.pSet p i iI = p iI := by simp [Og.Joint.pSet, Ne.symm h]
  have e2 : Og.Joint.vSet vs i v iI = vs iI := by simp [Og.Joint.vSet, Ne.symm h]
  exact ⟨gtrans h1 (World.grownBy_alloc w ob RB), fun k => (h2 (e ▸ k)).alloc (h2 (e ▸ k)).size _, fun k => by rw [e2]; exact hI _ _ _ (h3 (e ▸ k))⟩
theorem CI.ins {w2 : World} (c : CI wq RB iI INS p vs w) (hg : w.grownBy w2 RB) (hI : INS v w2) : CI wq RB iI INS (Og.Joint.pSet p iI) (Og.Joint.vSet vs iI v) w2 := by
  obtain ⟨h1, h2, h3⟩ := c
  exact ⟨gtrans h1 hg, fun k => by simp [Og.Joint.pSet] at k, fun _ => by simpa [Og.Joint.vSet] using hI⟩
end

set_option maxRecDepth 100000 in
set_option maxHeartbeats 8000000 in
theorem link_large (ns : List Nd) (ls : List Lk) (ps : List Pn) (x : Ed) (k : Nat) (B h : Nat) (va vb vc : Value) (w : World) (g : GS B w h va vb vc ns ls ps) (hc1 : rng 1 65535 x.c = true) (hd1 : rng 0 65535 x.d = true) (hge : 2048 ≤ ls.length) :
    Calls Try.prog 71 #[.pointer (some ⟨h, 0, none⟩), .agg #[.int .i64 4, .int .i64 x.a, .int .i64 x.b, .int .i64 x.c, .int .i64 x.d, .complex .f64 0 0, .int .u32 x.p.a, .int .i64 x.p.l, .bool false], .int .i64 (k : Int), .bool false] w fun e w' => e = .returned (.int .i64 7) ∧ Below w.heap.size w w' := by
  have hBw : B ≤ w.heap.size := Nat.le_of_lt (Nat.lt_of_le_of_lt g.hB (Array.getElem?_eq_some_iff.1 g.hh).1)
  obtain ⟨A, c, hv, hrd, _⟩ := Sl_of_row cLk_len (by omega) g.la rfl
  subst hv
  obtain ⟨n, hn⟩ : ∃ n, n = ls.length := ⟨_, rfl⟩
  have g1 : w.cell? ⟨h, 1, none⟩ = some (.slice A n c) := by rw [hn]; simp [World.cell?, g.hh]
  have HG := Lib.hid g
  have HN := Lib.hid hn
  have hcap : (2048 : Int) ≤ (n : Int) := by rw [hn]; omega
  have H36 : Hid (∀ w, Calls Try.prog 36 #[.int .i64 x.c] w fun e w' => e = .returned (.bool true) ∧ Below w.heap.size w w') := Lib.hid (fun w => by have := cost_ok x.c w; rwa [hc1] at this)
  have H37 : Hid (∀ w, Calls Try.prog 37 #[.int .i64 x.d] w fun e w' => e = .returned (.bool true) ∧ Below w.heap.size w w') := Lib.hid (fun w => by have := delay_ok x.d w; rwa [hd1] at this)
  clear g hrd hn hge
  go_enter Try.func71, Try.ntmps71
  go_wp2_with fail
  refine (H36.out _).mono ?_
  rintro e w1 ⟨rfl, hb1⟩
  have B1 := Lib.hid (bthen' ((Below.refl w.heap.size w).alloc (Nat.le_refl _) (.cells #[.int .i64 4, .int .i64 x.a, .int .i64 x.b, .int .i64 x.c, .int .i64 x.d, .complex .f64 0 0, .int .u32 x.p.a, .int .i64 x.p.l, .bool false] 53)) (by simp) hb1)
  have z1 : AtL w1 w.heap.size 0 [.int .i64 4, .int .i64 x.a, .int .i64 x.b, .int .i64 x.c, .int .i64 x.d, .complex .f64 0 0, .int .u32 x.p.a, .int .i64 x.p.l, .bool false] := (AtL_heap (heap_at rfl)).below hb1
  have g2 := bcell B1.out g1
  have y1_0 : w1.cell? ⟨w.heap.size, 0, none⟩ = some (.int .i64 4) := by have := z1 0 _ rfl; simpa using this
  have y1_1 : w1.cell? ⟨w.heap.size, 1, none⟩ = some (.int .i64 x.a) := by have := z1 1 _ rfl; simpa using this
  have y1_2 : w1.cell? ⟨w.heap.size, 2, none⟩ = some (.int .i64 x.b) := by have := z1 2 _ rfl; simpa using this
  have y1_3 : w1.cell? ⟨w.heap.size, 3, none⟩ = some (.int .i64 x.c) := by have := z1 3 _ rfl; simpa using this
  have y1_4 : w1.cell? ⟨w.heap.size, 4, none⟩ = some (.int .i64 x.d) := by have := z1 4 _ rfl; simpa using this
  clear hb1
  go_wp2_with fail
  refine (H37.out _).mono ?_
  rintro e w2 ⟨rfl, hb2⟩
  have B2 := Lib.hid (bthen' B1.out B1.out.size hb2)
  have z2 := z1.below hb2
  have g3 := bcell hb2 g2
  have y2_0 : w2.cell? ⟨w.heap.size, 0, none⟩ = some (.int .i64 4) := by have := z2 0 _ rfl; simpa using this
  have y2_1 : w2.cell? ⟨w.heap.size, 1, none⟩ = some (.int .i64 x.a) := by have := z2 1 _ rfl; simpa using this
  have y2_2 : w2.cell? ⟨w.heap.size, 2, none⟩ = some (.int .i64 x.b) := by have := z2 2 _ rfl; simpa using this
  have y2_3 : w2.cell? ⟨w.heap.size, 3, none⟩ = some (.int .i64 x.c) := by have := z2 3 _ rfl; simpa using this
  have y2_4 : w2.cell? ⟨w.heap.size, 4, none⟩ = some (.int .i64 x.d) := by have := z2 4 _ rfl; simpa using this
  clear hb2
  go_wp2_with fail
  go_ret
  exact ⟨rfl, B2.out⟩

set_option maxRecDepth 100000 in
set_option maxHeartbeats 8000000 in
theorem pin_large (ns : List Nd) (ls : List Lk) (ps : List Pn) (x : Ed) (k : Nat) (B h : Nat) (va vb vc : Value) (w : World) (g : GS B w h va vb vc ns ls ps) (hc1 : rng 0 65535 x.c = true) (hge : 1024 ≤ ps.length) :
    Calls Try.prog 69 #[.pointer (some ⟨h, 0, none⟩), .agg #[.int .i64 9, .int .i64 x.a, .int .i64 x.b, .int .i64 x.c, .int .i64 x.d, .complex .f64 0 0, .int .u32 x.p.a, .int .i64 x.p.l, .bool false], .int .i64 (k : Int), .bool false] w fun e w' => e = .returned (.int .i64 7) ∧ Below w.heap.size w w' := by
  have hBw : B ≤ w.heap.size := Nat.le_of_lt (Nat.lt_of_le_of_lt g.hB (Array.getElem?_eq_some_iff.1 g.hh).1)
  obtain ⟨A, c, hv, hrd, _⟩ := Sl_of_row cPn_len (by omega) g.pa rfl
  subst hv
  obtain ⟨n, hn⟩ : ∃ n, n = ps.length := ⟨_, rfl⟩
  have g1 : w.cell? ⟨h, 2, none⟩ = some (.slice A n c) := by rw [hn]; simp [World.cell?, g.hh]
  have HG := Lib.hid g
  have HN := Lib.hid hn
  have hcap : (1024 : Int) ≤ (n : Int) := by rw [hn]; omega
  have H40 : Hid (∀ w, Calls Try.prog 40 #[.int .i64 x.c] w fun e w' => e = .returned (.bool true) ∧ Below w.heap.size w w') := Lib.hid (fun w => by have := metric_ok x.c w; rwa [hc1] at this)
  clear g hrd hn hge
  go_enter Try.func69, Try.ntmps69
  go_wp2_with fail
  refine (H40.out _).mono ?_
  rintro e w1 ⟨rfl, hb1⟩
  have B1 := Lib.hid (bthen' ((Below.refl w.heap.size w).alloc (Nat.le_refl _) (.cells #[.int .i64 9, .int .i64 x.a, .int .i64 x.b, .int .i64 x.c, .int .i64 x.d, .complex .f64 0 0, .int .u32 x.p.a, .int .i64 x.p.l, .bool false] 53)) (by simp) hb1)
  have z1 : AtL w1 w.heap.size 0 [.int .i64 9, .int .i64 x.a, .int .i64 x.b, .int .i64 x.c, .int .i64 x.d, .complex .f64 0 0, .int .u32 x.p.a, .int .i64 x.p.l, .bool false] := (AtL_heap (heap_at rfl)).below hb1
  have g2 := bcell B1.out g1
  have y1_0 : w1.cell? ⟨w.heap.size, 0, none⟩ = some (.int .i64 9) := by have := z1 0 _ rfl; simpa using this
  have y1_1 : w1.cell? ⟨w.heap.size, 1, none⟩ = some (.int .i64 x.a) := by have := z1 1 _ rfl; simpa using this
  have y1_2 : w1.cell? ⟨w.heap.size, 2, none⟩ = some (.int .i64 x.b) := by have := z1 2 _ rfl; simpa using this
  have y1_3 : w1.cell? ⟨w.heap.size, 3, none⟩ = some (.int .i64 x.c) := by have := z1 3 _ rfl; simpa using this
  have y1_4 : w1.cell? ⟨w.heap.size, 4, none⟩ = some (.int .i64 x.d) := by have := z1 4 _ rfl; simpa using this
  clear hb1
  go_wp2_with fail
  go_ret
  exact ⟨rfl, B1.out⟩

set_option maxRecDepth 100000 in
set_option maxHeartbeats 8000000 in
theorem link_del (ns : List Nd) (ls : List Lk) (ps : List Pn) (x : Ed) (k : Nat) (B h : Nat) (va vb vc : Value) (w : World) (g : GS B w h va vb vc ns ls ps) (hk : k < ls.length) (hl : ls.length ≤ 1000000) :
    Calls Try.prog 71 #[.pointer (some ⟨h, 0, none⟩), .agg #[.int .i64 5, .int .i64 x.a, .int .i64 x.b, .int .i64 x.c, .int .i64 x.d, .complex .f64 0 0, .int .u32 x.p.a, .int .i64 x.p.l, .bool false], .int .i64 (k : Int), .bool true] w fun e w' => e = .returned (.int .i64 0) ∧ (∃ v', GS B w' h va v' vc ns (ls.eraseIdx k) ps) ∧ Below B w w' := by
  have hBw : B ≤ w.heap.size := Nat.le_of_lt (Nat.lt_of_le_of_lt g.hB (Array.getElem?_eq_some_iff.1 g.hh).1)
  obtain ⟨A, c, hv, hrd, _⟩ := Sl_of_row cLk_len (by omega) g.la rfl
  subst hv
  obtain ⟨n, hn⟩ : ∃ n, n = ls.length := ⟨_, rfl⟩
  have g1 : w.cell? ⟨h, 1, none⟩ = some (.slice A n c) := by rw [hn]; simp [World.cell?, g.hh]
  obtain ⟨gr, cap, hv, hbg, hgl⟩ := own_some g.la (fun e => by injection e with _ h2 _; omega)
  cases hv
  have hkn : k < n := by rw [hn]; exact hk
  have hki : (k : Int) < (n : Int) := by omega
  have hk0 : (0 : Int) ≤ (k : Int) := by omega
  have hwk1 : IntKind.i64.wrap ((k : Int) + 1) = (k : Int) + 1 := by rw [IntKind.wrap_i64]; omega
  have HD : Hid (∀ w2 : World, w2.ownsRow B 43 4 (.slice (some ⟨gr, 0, none⟩) n c) n (ls.flatMap cLk) → Calls Try.prog 109 #[.slice (some ⟨gr, 0, none⟩) n c, .int .i64 (k : Int), .int .i64 ((k : Int) + 1)] w2 fun e w' => ∃ n', n' = (ls.eraseIdx k).length ∧ e = .returned (.slice (some ⟨gr, 0, none⟩) n' c) ∧ w'.ownsRow B 43 4 (.slice (some ⟨gr, 0, none⟩) n' c) n' ((ls.eraseIdx k).flatMap cLk) ∧ w2.grownBy w' (some gr)) := Lib.hid (fun w2 ho => by
    obtain ⟨n', hn'⟩ : ∃ n', n = n' + 1 := ⟨n - 1, by omega⟩
    rw [hn'] at ho ⊢
    refine (Delete_okLk ls B n' k gr c w2 ho (by rw [← hn, hn']) (by omega) (by omega)).mono ?_
    rintro e w8 ⟨rfl, h2, h3⟩
    exact ⟨n', by rw [List.length_eraseIdx_of_lt (by omega), ← hn, hn']; rfl, rfl, h2, h3⟩)
  have HG := Lib.hid g
  have HN := Lib.hid hn
  clear g hrd hk hn
  have hlt : h < w.heap.size := World.block_lt_of_cell? w _ g1
  go_enter Try.func71, Try.ntmps71
  go_wp2_with (refine wpList_loadL rfl 30 (.tmp 88) rfl h 1 (.slice (some ⟨gr, 0, none⟩) n c) rfl (run_load1 isAgg30 (bcell ((Below.refl w.heap.size w).alloc (Nat.le_refl _) _) g1)) ?_)
  have G1 := Lib.hid (HG.out.below (show Below w.heap.size w _ from (Below.refl _ _).alloc (Nat.le_refl _) (.cells #[.int .i64 5, .int .i64 x.a, .int .i64 x.b, .int .i64 x.c, .int .i64 x.d, .complex .f64 0 0, .int .u32 x.p.a, .int .i64 x.p.l, .bool false] 53)))
  refine (HD.out _ (by have := G1.out.la; rwa [← HN.out] at this)).mono ?_
  rintro e w2 ⟨n', hn', rfl, ho, hgr⟩
  have G2 := Lib.hid (GS.setL G1.out hgr (by rw [← hn']; exact ho))
  have B2 := Lib.hid ((((Below.refl B w).alloc hBw (.cells #[.int .i64 5, .int .i64 x.a, .int .i64 x.b, .int .i64 x.c, .int .i64 x.d, .complex .f64 0 0, .int .u32 x.p.a, .int .i64 x.p.l, .bool false] 53)).grown hgr (by simp; omega) (fun j hj => by cases hj; exact hbg)).setCell (p := ⟨h, 1, none⟩) HG.out.hB (.slice (some ⟨gr, 0, none⟩) n' c))
  have hh2 := heap_grown hgr G1.out.hh (fun e => own_at G1.out.la G1.out.hh (by decide) e.symm)
  have g3 : w2.cell? ⟨h, 1, none⟩ = some (.slice (some ⟨gr, 0, none⟩) n c) := by rw [HN.out]; simp [World.cell?, hh2]
  have f3 : w2.frozen? ⟨h, 1, none⟩ = false := by simp [World.frozen?, hh2]
  clear hn' ho hgr hh2
  go_wp2_with fail
  go_ret
  exact ⟨rfl, ⟨_, G2.out⟩, B2.out⟩

set_option maxRecDepth 100000 in
set_option maxHeartbeats 8000000 in
theorem pin_del (ns : List Nd) (ls : List Lk) (ps : List Pn) (x : Ed) (k : Nat) (B h : Nat) (va vb vc : Value) (w : World) (g : GS B w h va vb vc ns ls ps) (hk : k < ps.length) (hl : ps.length ≤ 1000000) :
    Calls Try.prog 69 #[.pointer (some ⟨h, 0, none⟩), .agg #[.int .i64 10, .int .i64 x.a, .int .i64 x.b, .int .i64 x.c, .int .i64 x.d, .complex .f64 0 0, .int .u32 x.p.a, .int .i64 x.p.l, .bool false], .int .i64 (k : Int), .bool true] w fun e w' => e = .returned (.int .i64 0) ∧ (∃ v', GS B w' h va vb v' ns ls (ps.eraseIdx k)) ∧ Below B w w' := by
  have hBw : B ≤ w.heap.size := Nat.le_of_lt (Nat.lt_of_le_of_lt g.hB (Array.getElem?_eq_some_iff.1 g.hh).1)
  obtain ⟨A, c, hv, hrd, _⟩ := Sl_of_row cPn_len (by omega) g.pa rfl
  subst hv
  obtain ⟨n, hn⟩ : ∃ n, n = ps.length := ⟨_, rfl⟩
  have g1 : w.cell? ⟨h, 2, none⟩ = some (.slice A n c) := by rw [hn]; simp [World.cell?, g.hh]
  obtain ⟨gr, cap, hv, hbg, hgl⟩ := own_some g.pa (fun e => by injection e with _ h2 _; omega)
  cases hv
  have hkn : k < n := by rw [hn]; exact hk
  have hki : (k : Int) < (n : Int) := by omega
  have hk0 : (0 : Int) ≤ (k : Int) := by omega
  have hwk1 : IntKind.i64.wrap ((k : Int) + 1) = (k : Int) + 1 := by rw [IntKind.wrap_i64]; omega
  have HD : Hid (∀ w2 : World, w2.ownsRow B 49 4 (.slice (some ⟨gr, 0, none⟩) n c) n (ps.flatMap cPn) → Calls Try.prog 105 #[.slice (some ⟨gr, 0, none⟩) n c, .int .i64 (k : Int), .int .i64 ((k : Int) + 1)] w2 fun e w' => ∃ n', n' = (ps.eraseIdx k).length ∧ e = .returned (.slice (some ⟨gr, 0, none⟩) n' c) ∧ w'.ownsRow B 49 4 (.slice (some ⟨gr, 0, none⟩) n' c) n' ((ps.eraseIdx k).flatMap cPn) ∧ w2.grownBy w' (some gr)) := Lib.hid (fun w2 ho => by
    obtain ⟨n', hn'⟩ : ∃ n', n = n' + 1 := ⟨n - 1, by omega⟩
    rw [hn'] at ho ⊢
    refine (Delete_okPn ps B n' k gr c w2 ho (by rw [← hn, hn']) (by omega) (by omega)).mono ?_
    rintro e w8 ⟨rfl, h2, h3⟩
    exact ⟨n', by rw [List.length_eraseIdx_of_lt (by omega), ← hn, hn']; rfl, rfl, h2, h3⟩)
  have HG := Lib.hid g
  have HN := Lib.hid hn
  clear g hrd hk hn
  have hlt : h < w.heap.size := World.block_lt_of_cell? w _ g1
  go_enter Try.func69, Try.ntmps69
  go_wp2_with (refine wpList_loadL rfl 31 (.tmp 24) rfl h 2 (.slice (some ⟨gr, 0, none⟩) n c) rfl (run_load1 isAgg31 (bcell ((Below.refl w.heap.size w).alloc (Nat.le_refl _) _) g1)) ?_)
  have G1 := Lib.hid (HG.out.below (show Below w.heap.size w _ from (Below.refl _ _).alloc (Nat.le_refl _) (.cells #[.int .i64 10, .int .i64 x.a, .int .i64 x.b, .int .i64 x.c, .int .i64 x.d, .complex .f64 0 0, .int .u32 x.p.a, .int .i64 x.p.l, .bool false] 53)))
  refine (HD.out _ (by have := G1.out.pa; rwa [← HN.out] at this)).mono ?_
  rintro e w2 ⟨n', hn', rfl, ho, hgr⟩
  have G2 := Lib.hid (GS.setP G1.out hgr (by rw [← hn']; exact ho))
  have B2 := Lib.hid ((((Below.refl B w).alloc hBw (.cells #[.int .i64 10, .int .i64 x.a, .int .i64 x.b, .int .i64 x.c, .int .i64 x.d, .complex .f64 0 0, .int .u32 x.p.a, .int .i64 x.p.l, .bool false] 53)).grown hgr (by simp; omega) (fun j hj => by cases hj; exact hbg)).setCell (p := ⟨h, 2, none⟩) HG.out.hB (.slice (some ⟨gr, 0, none⟩) n' c))
  have hh2 := heap_grown hgr G1.out.hh (fun e => own_at G1.out.pa G1.out.hh (by decide) e.symm)
  have g3 : w2.cell? ⟨h, 2, none⟩ = some (.slice (some ⟨gr, 0, none⟩) n c) := by rw [HN.out]; simp [World.cell?, hh2]
  have f3 : w2.frozen? ⟨h, 2, none⟩ = false := by simp [World.frozen?, hh2]
  clear hn' ho hgr hh2
  go_wp2_with fail
  go_ret
  exact ⟨rfl, ⟨_, G2.out⟩, B2.out⟩

set_option maxRecDepth 100000 in
set_option maxHeartbeats 8000000 in
theorem link_add (ns : List Nd) (ls : List Lk) (ps : List Pn) (x : Ed) (k : Nat) (B h : Nat) (va vb vc : Value) (w : World) (g : GS B w h va vb vc ns ls ps) (hc1 : rng 1 65535 x.c = true) (hd1 : rng 0 65535 x.d = true) (hge : ls.length < 2048) (hk : k ≤ ls.length) :
    Calls Try.prog 71 #[.pointer (some ⟨h, 0, none⟩), .agg #[.int .i64 4, .int .i64 x.a, .int .i64 x.b, .int .i64 x.c, .int .i64 x.d, .complex .f64 0 0, .int .u32 x.p.a, .int .i64 x.p.l, .bool false], .int .i64 (k : Int), .bool false] w fun e w' => e = .returned (.int .i64 0) ∧ (∃ v', GS B w' h va v' vc ns (ls.take k ++ (⟨x.a, x.b, x.c, x.d⟩ : Lk) :: ls.drop k) ps) ∧ Below B w w' := by
  have hBw : B ≤ w.heap.size := Nat.le_of_lt (Nat.lt_of_le_of_lt g.hB (Array.getElem?_eq_some_iff.1 g.hh).1)
  obtain ⟨A, c, hv, hrd, _⟩ := Sl_of_row cLk_len (by omega) g.la rfl
  subst hv
  obtain ⟨n, hn⟩ : ∃ n, n = ls.length := ⟨_, rfl⟩
  have g1 : w.cell? ⟨h, 1, none⟩ = some (.slice A n c) := by rw [hn]; simp [World.cell?, g.hh]
  have HG := Lib.hid g
  have HN := Lib.hid hn
  have hcap : (n : Int) < 2048 := by rw [hn]; omega
  have hkn : k ≤ n := by rw [hn]; exact hk
  have hn2 : n ≤ 1000000 := by omega
  have H36 : Hid (∀ w, Calls Try.prog 36 #[.int .i64 x.c] w fun e w' => e = .returned (.bool true) ∧ Below w.heap.size w w') := Lib.hid (fun w => by have := cost_ok x.c w; rwa [hc1] at this)
  have H37 : Hid (∀ w, Calls Try.prog 37 #[.int .i64 x.d] w fun e w' => e = .returned (.bool true) ∧ Below w.heap.size w w') := Lib.hid (fun w => by have := delay_ok x.d w; rwa [hd1] at this)
  clear g hrd hn hge hk
  go_enter Try.func71, Try.ntmps71
  go_wp2_with fail
  refine (H36.out _).mono ?_
  rintro e w1 ⟨rfl, hb1⟩
  have B1 := Lib.hid (bthen' ((Below.refl w.heap.size w).alloc (Nat.le_refl _) (.cells #[.int .i64 4, .int .i64 x.a, .int .i64 x.b, .int .i64 x.c, .int .i64 x.d, .complex .f64 0 0, .int .u32 x.p.a, .int .i64 x.p.l, .bool false] 53)) (by simp) hb1)
  have z1 : AtL w1 w.heap.size 0 [.int .i64 4, .int .i64 x.a, .int .i64 x.b, .int .i64 x.c, .int .i64 x.d, .complex .f64 0 0, .int .u32 x.p.a, .int .i64 x.p.l, .bool false] := (AtL_heap (heap_at rfl)).below hb1
  have g2 := bcell B1.out g1
  have y1_0 : w1.cell? ⟨w.heap.size, 0, none⟩ = some (.int .i64 4) := by have := z1 0 _ rfl; simpa using this
  have y1_1 : w1.cell? ⟨w.heap.size, 1, none⟩ = some (.int .i64 x.a) := by have := z1 1 _ rfl; simpa using this
  have y1_2 : w1.cell? ⟨w.heap.size, 2, none⟩ = some (.int .i64 x.b) := by have := z1 2 _ rfl; simpa using this
  have y1_3 : w1.cell? ⟨w.heap.size, 3, none⟩ = some (.int .i64 x.c) := by have := z1 3 _ rfl; simpa using this
  have y1_4 : w1.cell? ⟨w.heap.size, 4, none⟩ = some (.int .i64 x.d) := by have := z1 4 _ rfl; simpa using this
  clear hb1
  go_wp2_with fail
  refine (H37.out _).mono ?_
  rintro e w2 ⟨rfl, hb2⟩
  have B2 := Lib.hid (bthen' B1.out B1.out.size hb2)
  have z2 := z1.below hb2
  have g3 := bcell hb2 g2
  have y2_0 : w2.cell? ⟨w.heap.size, 0, none⟩ = some (.int .i64 4) := by have := z2 0 _ rfl; simpa using this
  have y2_1 : w2.cell? ⟨w.heap.size, 1, none⟩ = some (.int .i64 x.a) := by have := z2 1 _ rfl; simpa using this
  have y2_2 : w2.cell? ⟨w.heap.size, 2, none⟩ = some (.int .i64 x.b) := by have := z2 2 _ rfl; simpa using this
  have y2_3 : w2.cell? ⟨w.heap.size, 3, none⟩ = some (.int .i64 x.c) := by have := z2 3 _ rfl; simpa using this
  have y2_4 : w2.cell? ⟨w.heap.size, 4, none⟩ = some (.int .i64 x.d) := by have := z2 4 _ rfl; simpa using this
  clear hb2
  go_wp2_with fail
  obtain ⟨wq, rfl⟩ : ∃ wq : World, wq = w2 := ⟨_, rfl⟩
  have GQ := Lib.hid (HG.out.below B2.out)
  have hxl : w.heap.size < wq.heap.size := (World.block_lt_of_cell? wq ⟨w.heap.size, 0, none⟩ (by have := z2 0 _ rfl; simpa using this))
  have hne : some w.heap.size ≠ (Value.slice A n c).ownBlock := fun e => by have := (HG.out.la.lt w.heap.size (by rw [HN.out] at e; exact e.symm)).2; omega
  have hnh : some h ≠ (Value.slice A n c).ownBlock := fun e => own_at HG.out.la HG.out.hh (by decide) (by rw [HN.out] at e; exact e.symm)
  have HC : ∀ w2, wq.grownBy w2 (Value.slice A n c).ownBlock → w2.cell? ⟨w.heap.size, 0, none⟩ = some (.int .i64 4) ∧ w2.cell? ⟨w.heap.size, 1, none⟩ = some (.int .i64 x.a) ∧ w2.cell? ⟨w.heap.size, 2, none⟩ = some (.int .i64 x.b) ∧ w2.cell? ⟨w.heap.size, 3, none⟩ = some (.int .i64 x.c) ∧ w2.cell? ⟨w.heap.size, 4, none⟩ = some (.int .i64 x.d) ∧ w2.cell? ⟨w.heap.size, 5, none⟩ = some (.complex .f64 0 0) ∧ w2.cell? ⟨w.heap.size, 6, none⟩ = some (.int .u32 x.p.a) ∧ w2.cell? ⟨w.heap.size, 7, none⟩ = some (.int .i64 x.p.l) ∧ w2.cell? ⟨w.heap.size, 8, none⟩ = some (.bool false) ∧ w2.cell? ⟨h, 1, none⟩ = some (.slice A n c) := fun w2 hg => ⟨hg.cell (by have := z2 0 _ rfl; simpa using this) hne, hg.cell (by have := z2 1 _ rfl; simpa using this) hne, hg.cell (by have := z2 2 _ rfl; simpa using this) hne, hg.cell (by have := z2 3 _ rfl; simpa using this) hne, hg.cell (by have := z2 4 _ rfl; simpa using this) hne, hg.cell (by have := z2 5 _ rfl; simpa using this) hne, hg.cell (by have := z2 6 _ rfl; simpa using this) hne, hg.cell (by have := z2 7 _ rfl; simpa using this) hne, hg.cell (by have := z2 8 _ rfl; simpa using this) hne, hg.cell g3 hnh⟩
  obtain ⟨INS, IM, IE⟩ : ∃ I : Value → World → Prop, Hid (∀ (v : Value) (w2 : World), w2.ownsRow B 43 4 v (n + 1) ((ls.take k ++ (⟨x.a, x.b, x.c, x.d⟩ : Lk) :: ls.drop k).flatMap cLk) → I v w2) ∧ Hid (∀ (v : Value) (w2 : World), I v w2 → w2.ownsRow B 43 4 v (n + 1) ((ls.take k ++ (⟨x.a, x.b, x.c, x.d⟩ : Lk) :: ls.drop k).flatMap cLk)) := ⟨fun v w2 => w2.ownsRow B 43 4 v (n + 1) ((ls.take k ++ (⟨x.a, x.b, x.c, x.d⟩ : Lk) :: ls.drop k).flatMap cLk), Lib.hid (fun _ _ h => h), Lib.hid (fun _ _ h => h)⟩
  obtain ⟨DB, DM, DE⟩ : ∃ I : Value → World → Prop, Hid (∀ (v : Value) (w2 : World), (∃ g0, v = .slice (some ⟨g0, 0, none⟩) 1 1 ∧ w2.heap[g0]? = some (.cells (cLk (⟨x.a, x.b, x.c, x.d⟩ : Lk)).toArray 43 (0, 0)) ∧ (Value.slice A n c).ownBlock ≠ some g0) → I v w2) ∧ Hid (∀ (v : Value) (w2 : World), I v w2 → (∃ g0, v = .slice (some ⟨g0, 0, none⟩) 1 1 ∧ w2.heap[g0]? = some (.cells (cLk (⟨x.a, x.b, x.c, x.d⟩ : Lk)).toArray 43 (0, 0)) ∧ (Value.slice A n c).ownBlock ≠ some g0)) := ⟨fun v w2 => ∃ g0, v = .slice (some ⟨g0, 0, none⟩) 1 1 ∧ w2.heap[g0]? = some (.cells (cLk (⟨x.a, x.b, x.c, x.d⟩ : Lk)).toArray 43 (0, 0)) ∧ (Value.slice A n c).ownBlock ≠ some g0, Lib.hid (fun _ _ h => h), Lib.hid (fun _ _ h => h)⟩
  have HI : Hid (∀ (w2 : World) (vb' : Nat), w2.ownsRow B 43 4 (.slice A n c) n (ls.flatMap cLk) → w2.heap[vb']? = some (.cells (cLk (⟨x.a, x.b, x.c, x.d⟩ : Lk)).toArray 43 (0, 0)) → (Value.slice A n c).ownBlock ≠ some vb' → B ≤ w2.heap.size → Calls Try.prog 108 #[.slice A n c, .int .i64 (k : Int), .slice (some ⟨vb', 0, none⟩) 1 1] w2 fun e w' => ∃ v', e = .returned v' ∧ w'.ownsRow B 43 4 v' (n + 1) ((ls.take k ++ (⟨x.a, x.b, x.c, x.d⟩ : Lk) :: ls.drop k).flatMap cLk) ∧ w2.grownBy w' (Value.slice A n c).ownBlock) := Lib.hid (fun w2 vb' ho h1 h2 h3 => Insert_okLk ls (⟨x.a, x.b, x.c, x.d⟩ : Lk) B n k vb' _ w2 ho HN.out.symm hkn h1 h2 h3 (by omega))
  clear g1 z1 z2 g2 g3 y1_0 y1_1 y1_2 y1_3 y1_4 y2_0 y2_1 y2_2 y2_3 y2_4
  refine Og.Joint.walk_lit 17 [[],[],[1],[2,1],[3,2,1],[],[],[6],[],[8],[],[10],[],[12],[7,9,11,13,6,8,10,12],[14,7,9,11,13,6,8,10,12],[4,5,15,3,2,1,14,7,9,11,13,6,8,10,12],[0,1,2,3,4,5,6,7,8,9,10,11,12,13,14,15,16],[17,0,1,2,3,4,5,6,7,8,9,10,11,12,13,14,15,16],[18,16,0,1,2,3,4,5,6,7,8,9,10,11,12,13,14,15,17]] (CI wq (Value.slice A n c).ownBlock 16 INS) (fun a b => a.grownBy b (Value.slice A n c).ownBlock) (by kernel_rfl) (by kernel_rfl) (by kernel_rfl) (fun vs => ⟨⟨rfl, rfl, rfl, Nat.le_refl _, fun _ _ _ => rfl⟩, fun _ => bdrew, fun e => by cases e⟩) ?_
  simp only [List.take_succ_cons, List.take_zero, List.drop_succ_cons, List.drop_zero]
  refine Og.Joint.step_pure (fun p vs v w h => h.other (by decide)) (fun w => World.grownBy.refl w _) ?_; apply Exists.intro; refine And.intro ?_ ?_; focus (intro p vs w2 hC hk; have hm := HC w2 hC.1; refine Og.OptB.mk ?_; revert hk; simp only [Og.KS, Og.K0, Og.Is, List.getD_cons_zero, List.getD_cons_succ, List.getD_nil, List.contains_cons, List.contains_nil, Nat.reduceAdd, Nat.reduceBEq, Bool.or_false, Bool.false_or, Bool.or_true, Bool.true_or, Bool.false_eq_true, false_implies, true_implies, true_and, and_true, forall_const]; intros; go_simp; rfl)
  refine Og.Joint.step_pure (fun p vs v w h => h.other (by decide)) (fun w => World.grownBy.refl w _) ?_; apply Exists.intro; refine And.intro ?_ ?_; focus (intro p vs w2 hC hk; have hm := HC w2 hC.1; refine Og.OptB.mk ?_; revert hk; simp only [Og.KS, Og.K0, Og.Is, List.getD_cons_zero, List.getD_cons_succ, List.getD_nil, List.contains_cons, List.contains_nil, Nat.reduceAdd, Nat.reduceBEq, Bool.or_false, Bool.false_or, Bool.or_true, Bool.true_or, Bool.false_eq_true, false_implies, true_implies, true_and, and_true, forall_const]; intros; go_simp; rfl)
  refine Og.Joint.step_pure (fun p vs v w h => h.other (by decide)) (fun w => World.grownBy.refl w _) ?_; apply Exists.intro; refine And.intro ?_ ?_; focus (intro p vs w2 hC hk; have hm := HC w2 hC.1; refine Og.OptB.mk ?_; revert hk; simp only [Og.KS, Og.K0, Og.Is, List.getD_cons_zero, List.getD_cons_succ, List.getD_nil, List.contains_cons, List.contains_nil, Nat.reduceAdd, Nat.reduceBEq, Bool.or_false, Bool.false_or, Bool.or_true, Bool.true_or, Bool.false_eq_true, false_implies, true_implies, true_and, and_true, forall_const]; intros; go_simp; rfl)
  refine Og.Joint.step_pure (fun p vs v w h => h.other (by decide)) (fun w => World.grownBy.refl w _) ?_; apply Exists.intro; refine And.intro ?_ ?_; focus (intro p vs w2 hC hk; have hm := HC w2 hC.1; refine Og.OptB.mk ?_; revert hk; simp only [Og.KS, Og.K0, Og.Is, List.getD_cons_zero, List.getD_cons_succ, List.getD_nil, List.contains_cons, List.contains_nil, Nat.reduceAdd, Nat.reduceBEq, Bool.or_false, Bool.false_or, Bool.or_true, Bool.true_or, Bool.false_eq_true, false_implies, true_implies, true_and, and_true, forall_const]; intros; go_simp; rfl)
  refine Og.Joint.step_pure (fun p vs v w h => h.other (by decide)) (fun w => World.grownBy.refl w _) ?_; apply Exists.intro; refine And.intro ?_ ?_; focus (intro p vs w2 hC hk; have hm := HC w2 hC.1; refine Og.OptB.mk ?_; revert hk; simp only [Og.KS, Og.K0, Og.Is, List.getD_cons_zero, List.getD_cons_succ, List.getD_nil, List.contains_cons, List.contains_nil, Nat.reduceAdd, Nat.reduceBEq, Bool.or_false, Bool.false_or, Bool.or_true, Bool.true_or, Bool.false_eq_true, false_implies, true_implies, true_and, and_true, forall_const]; intros; go_simp; rfl)
  refine Og.Joint.step_pure (fun p vs v w h => h.other (by decide)) (fun w => World.grownBy.refl w _) ?_; apply Exists.intro; refine And.intro ?_ ?_; focus (intro p vs w2 hC hk; have hm := HC w2 hC.1; refine Og.OptB.mk ?_; revert hk; simp only [Og.KS, Og.K0, Og.Is, List.getD_cons_zero, List.getD_cons_succ, List.getD_nil, List.contains_cons, List.contains_nil, Nat.reduceAdd, Nat.reduceBEq, Bool.or_false, Bool.false_or, Bool.or_true, Bool.true_or, Bool.false_eq_true, false_implies, true_implies, true_and, and_true, forall_const]; intros; go_simp; rfl)
  refine Og.Joint.step_pure (fun p vs v w h => h.other (by decide)) (fun w => World.grownBy.refl w _) ?_; apply Exists.intro; refine And.intro ?_ ?_; focus (intro p vs w2 hC hk; have hm := HC w2 hC.1; refine Og.OptB.mk ?_; revert hk; simp only [Og.KS, Og.K0, Og.Is, List.getD_cons_zero, List.getD_cons_succ, List.getD_nil, List.contains_cons, List.contains_nil, Nat.reduceAdd, Nat.reduceBEq, Bool.or_false, Bool.false_or, Bool.or_true, Bool.true_or, Bool.false_eq_true, false_implies, true_implies, true_and, and_true, forall_const]; intros; go_simp; rfl)
  refine Og.Joint.step_pure (fun p vs v w h => h.other (by decide)) (fun w => World.grownBy.refl w _) ?_; apply Exists.intro; refine And.intro ?_ ?_; focus (intro p vs w2 hC hk; have hm := HC w2 hC.1; refine Og.OptB.mk ?_; revert hk; simp only [Og.KS, Og.K0, Og.Is, List.getD_cons_zero, List.getD_cons_succ, List.getD_nil, List.contains_cons, List.contains_nil, Nat.reduceAdd, Nat.reduceBEq, Bool.or_false, Bool.false_or, Bool.or_true, Bool.true_or, Bool.false_eq_true, false_implies, true_implies, true_and, and_true, forall_const]; intros; go_simp; rfl)
  refine Og.Joint.step_pure (fun p vs v w h => h.other (by decide)) (fun w => World.grownBy.refl w _) ?_; apply Exists.intro; refine And.intro ?_ ?_; focus (intro p vs w2 hC hk; have hm := HC w2 hC.1; refine Og.OptB.mk ?_; revert hk; simp only [Og.KS, Og.K0, Og.Is, List.getD_cons_zero, List.getD_cons_succ, List.getD_nil, List.contains_cons, List.contains_nil, Nat.reduceAdd, Nat.reduceBEq, Bool.or_false, Bool.false_or, Bool.or_true, Bool.true_or, Bool.false_eq_true, false_implies, true_implies, true_and, and_true, forall_const]; intros; go_simp; rfl)
  refine Og.Joint.step_pure (fun p vs v w h => h.other (by decide)) (fun w => World.grownBy.refl w _) ?_; apply Exists.intro; refine And.intro ?_ ?_; focus (intro p vs w2 hC hk; have hm := HC w2 hC.1; refine Og.OptB.mk ?_; revert hk; simp only [Og.KS, Og.K0, Og.Is, List.getD_cons_zero, List.getD_cons_succ, List.getD_nil, List.contains_cons, List.contains_nil, Nat.reduceAdd, Nat.reduceBEq, Bool.or_false, Bool.false_or, Bool.or_true, Bool.true_or, Bool.false_eq_true, false_implies, true_implies, true_and, and_true, forall_const]; intros; go_simp; rfl)
  refine Og.Joint.step_pure (fun p vs v w h => h.other (by decide)) (fun w => World.grownBy.refl w _) ?_; apply Exists.intro; refine And.intro ?_ ?_; focus (intro p vs w2 hC hk; have hm := HC w2 hC.1; refine Og.OptB.mk ?_; revert hk; simp only [Og.KS, Og.K0, Og.Is, List.getD_cons_zero, List.getD_cons_succ, List.getD_nil, List.contains_cons, List.contains_nil, Nat.reduceAdd, Nat.reduceBEq, Bool.or_false, Bool.false_or, Bool.or_true, Bool.true_or, Bool.false_eq_true, false_implies, true_implies, true_and, and_true, forall_const]; intros; go_simp; rfl)
  refine Og.Joint.step_pure (fun p vs v w h => h.other (by decide)) (fun w => World.grownBy.refl w _) ?_; apply Exists.intro; refine And.intro ?_ ?_; focus (intro p vs w2 hC hk; have hm := HC w2 hC.1; refine Og.OptB.mk ?_; revert hk; simp only [Og.KS, Og.K0, Og.Is, List.getD_cons_zero, List.getD_cons_succ, List.getD_nil, List.contains_cons, List.contains_nil, Nat.reduceAdd, Nat.reduceBEq, Bool.or_false, Bool.false_or, Bool.or_true, Bool.true_or, Bool.false_eq_true, false_implies, true_implies, true_and, and_true, forall_const]; intros; go_simp; rfl)
  refine Og.Joint.step_pure (fun p vs v w h => h.other (by decide)) (fun w => World.grownBy.refl w _) ?_; apply Exists.intro; refine And.intro ?_ ?_; focus (intro p vs w2 hC hk; have hm := HC w2 hC.1; refine Og.OptB.mk ?_; revert hk; simp only [Og.KS, Og.K0, Og.Is, List.getD_cons_zero, List.getD_cons_succ, List.getD_nil, List.contains_cons, List.contains_nil, Nat.reduceAdd, Nat.reduceBEq, Bool.or_false, Bool.false_or, Bool.or_true, Bool.true_or, Bool.false_eq_true, false_implies, true_implies, true_and, and_true, forall_const]; intros; go_simp; rfl)
  refine Og.Joint.step_pure (fun p vs v w h => h.other (by decide)) (fun w => World.grownBy.refl w _) ?_; apply Exists.intro; refine And.intro ?_ ?_; focus (intro p vs w2 hC hk; have hm := HC w2 hC.1; refine Og.OptB.mk ?_; revert hk; simp only [Og.KS, Og.K0, Og.Is, List.getD_cons_zero, List.getD_cons_succ, List.getD_nil, List.contains_cons, List.contains_nil, Nat.reduceAdd, Nat.reduceBEq, Bool.or_false, Bool.false_or, Bool.or_true, Bool.true_or, Bool.false_eq_true, false_implies, true_implies, true_and, and_true, forall_const]; intros; go_simp; rfl)
  refine Og.Joint.step_pure (fun p vs v w h => h.other (by decide)) (fun w => World.grownBy.refl w _) ?_; apply Exists.intro; refine And.intro ?_ ?_; focus (intro p vs w2 hC hk; have hm := HC w2 hC.1; refine Og.OptB.mk ?_; revert hk; simp only [Og.KS, Og.K0, Og.Is, List.getD_cons_zero, List.getD_cons_succ, List.getD_nil, List.contains_cons, List.contains_nil, Nat.reduceAdd, Nat.reduceBEq, Bool.or_false, Bool.false_or, Bool.or_true, Bool.true_or, Bool.false_eq_true, false_implies, true_implies, true_and, and_true, forall_const]; intros; go_simp; rfl)
  refine Og.Joint.step_any DB (fun v w2 w3 hr hd => by obtain ⟨g0, e0, h0, hne0⟩ := DE.out _ _ hd; exact DM.out _ _ ⟨g0, e0, heap_grown hr h0 (fun e => hne0 e.symm), hne0⟩) ?_ ?_; focus (intro p vs w2 hp hC hk; refine Og.OptB.mk ?_; revert hk; simp only [Og.KS, Og.K0, Og.Is, List.getD_cons_zero, List.getD_cons_succ, List.getD_nil, List.contains_cons, List.contains_nil, Nat.reduceAdd, Nat.reduceBEq, Bool.or_false, Bool.false_or, Bool.or_true, Bool.true_or, Bool.false_eq_true, false_implies, true_implies, true_and, and_true, forall_const]; intro hk; go_simp; exact ⟨hC.alloc (by decide) (fun v w3 o hi => IM.out _ _ ((IE.out _ _ hi).alloc o)) _, World.grownBy_alloc _ _ _, DM.out _ _ ⟨_, rfl, heap_at rfl, fun e => Nat.lt_irrefl w2.heap.size (Nat.lt_of_lt_of_le (GQ.out.la.lt _ (by rw [HN.out] at e; exact e)).2 hC.1.size)⟩⟩)
  refine Og.Joint.step_any (fun _ _ => True) (fun _ _ _ _ _ => trivial) ?_ ?_; focus (intro p vs w2 hp hC hk; have b2 := hC.2.1 hp; have ow := GQ.out.la; rw [← HN.out] at ow; have ow2 := own_below ow b2; refine Og.OptB.mk ?_; revert hk; simp only [Og.KS, Og.K0, Og.Is, List.getD_cons_zero, List.getD_cons_succ, List.getD_nil, List.contains_cons, List.contains_nil, Nat.reduceAdd, Nat.reduceBEq, Bool.or_false, Bool.false_or, Bool.or_true, Bool.true_or, Bool.false_eq_true, false_implies, true_implies, true_and, and_true, forall_const]; intro hk; obtain ⟨hdb, hk⟩ := hk; obtain ⟨g0, e0, h0, hne0⟩ := DE.out _ _ hdb; simp only [hk, e0]; go_simp; refine (HI.out w2 g0 ow2 h0 hne0 (Nat.le_trans hBw (Nat.le_trans B2.out.size b2.size))).mono ?_; rintro e w3 ⟨v3, rfl, ho3, hg3⟩; exact Og.RetV.mk ⟨hC.ins hg3 (IM.out _ _ ho3), hg3⟩)
  intro p vs w2 hp hC hk
  have hins := IE.out _ _ (hC.2.2 (hp 16 (by decide)))
  have hgq := hC.1
  simp only [Og.KS, Og.K0, Og.Is, List.getD_cons_zero, List.getD_cons_succ, List.getD_nil, List.contains_cons, List.contains_nil, Nat.reduceAdd, Nat.reduceBEq, Bool.or_false, Bool.false_or, Bool.or_true, Bool.true_or, Bool.false_eq_true, false_implies, true_implies, true_and, and_true, forall_const] at hk
  obtain ⟨hdb, hk⟩ := hk
  obtain ⟨g0, e0, _⟩ := DE.out _ _ hdb
  obtain ⟨A3, c3, hv3, _⟩ := Sl_of_row (xs := (ls.take k ++ (⟨x.a, x.b, x.c, x.d⟩ : Lk) :: ls.drop k)) cLk_len (by omega) hins (by simp only [List.length_append, List.length_cons, List.length_take, List.length_drop]; rw [← HN.out]; omega)
  have HNL := Lib.hid (show n + 1 = (ls.take k ++ (⟨x.a, x.b, x.c, x.d⟩ : Lk) :: ls.drop k).length by simp only [List.length_append, List.length_cons, List.length_take, List.length_drop]; rw [← HN.out]; omega)
  rw [← HNL.out] at hv3
  rw [hv3] at hins
  simp only [hk, e0, hv3, Act.put, List.setIfInBounds_toArray, List.set_cons_zero, List.set_cons_succ]
  have G2 := Lib.hid (GS.setL (v' := .slice A3 (n + 1) c3) (by have := GQ.out; exact this) (by rw [← HN.out]; exact hgq) (by rw [← HNL.out]; exact hins))
  have B2 := Lib.hid (((B2.out.mono hBw).grown hgq (by have := B2.out.size; omega) (fun j hj => (HG.out.la.lt j (by rw [← HN.out]; exact hj)).1)).setCell (p := ⟨h, 1, none⟩) HG.out.hB (.slice A3 (n + 1) c3))
  have hh2 := heap_grown hgq GQ.out.hh (fun e => own_at GQ.out.la GQ.out.hh (by decide) (by rw [← HN.out]; exact e.symm))
  have g8 : w2.cell? ⟨h, 1, none⟩ = some (.slice A n c) := by rw [HN.out]; simp [World.cell?, hh2]
  have f8 : w2.frozen? ⟨h, 1, none⟩ = false := by simp [World.frozen?, hh2]
  clear hk e0 hv3 hdb IM IE DM DE hp hC hins hgq hh2 HC
  go_wp2_with fail
  go_ret
  exact ⟨rfl, ⟨_, G2.out⟩, B2.out⟩

set_option maxRecDepth 100000 in
set_option maxHeartbeats 8000000 in
theorem pin_add (ns : List Nd) (ls : List Lk) (ps : List Pn) (x : Ed) (k : Nat) (B h : Nat) (va vb vc : Value) (w : World) (g : GS B w h va vb vc ns ls ps) (hc1 : rng 0 65535 x.c = true) (hge : ps.length < 1024) (hk : k ≤ ps.length) :
    Calls Try.prog 69 #[.pointer (some ⟨h, 0, none⟩), .agg #[.int .i64 9, .int .i64 x.a, .int .i64 x.b, .int .i64 x.c, .int .i64 x.d, .complex .f64 0 0, .int .u32 x.p.a, .int .i64 x.p.l, .bool false], .int .i64 (k : Int), .bool false] w fun e w' => e = .returned (.int .i64 0) ∧ (∃ v', GS B w' h va vb v' ns ls (ps.take k ++ (⟨x.p, x.a, x.c⟩ : Pn) :: ps.drop k)) ∧ Below B w w' := by
  have hBw : B ≤ w.heap.size := Nat.le_of_lt (Nat.lt_of_le_of_lt g.hB (Array.getElem?_eq_some_iff.1 g.hh).1)
  obtain ⟨A, c, hv, hrd, _⟩ := Sl_of_row cPn_len (by omega) g.pa rfl
  subst hv
  obtain ⟨n, hn⟩ : ∃ n, n = ps.length := ⟨_, rfl⟩
  have g1 : w.cell? ⟨h, 2, none⟩ = some (.slice A n c) := by rw [hn]; simp [World.cell?, g.hh]
  have HG := Lib.hid g
  have HN := Lib.hid hn
  have hcap : (n : Int) < 1024 := by rw [hn]; omega
  have hkn : k ≤ n := by rw [hn]; exact hk
  have hn2 : n ≤ 1000000 := by omega
  have H40 : Hid (∀ w, Calls Try.prog 40 #[.int .i64 x.c] w fun e w' => e = .returned (.bool true) ∧ Below w.heap.size w w') := Lib.hid (fun w => by have := metric_ok x.c w; rwa [hc1] at this)
  clear g hrd hn hge hk
  go_enter Try.func69, Try.ntmps69
  go_wp2_with fail
  refine (H40.out _).mono ?_
  rintro e w1 ⟨rfl, hb1⟩
  have B1 := Lib.hid (bthen' ((Below.refl w.heap.size w).alloc (Nat.le_refl _) (.cells #[.int .i64 9, .int .i64 x.a, .int .i64 x.b, .int .i64 x.c, .int .i64 x.d, .complex .f64 0 0, .int .u32 x.p.a, .int .i64 x.p.l, .bool false] 53)) (by simp) hb1)
  have z1 : AtL w1 w.heap.size 0 [.int .i64 9, .int .i64 x.a, .int .i64 x.b, .int .i64 x.c, .int .i64 x.d, .complex .f64 0 0, .int .u32 x.p.a, .int .i64 x.p.l, .bool false] := (AtL_heap (heap_at rfl)).below hb1
  have g2 := bcell B1.out g1
  have y1_0 : w1.cell? ⟨w.heap.size, 0, none⟩ = some (.int .i64 9) := by have := z1 0 _ rfl; simpa using this
  have y1_1 : w1.cell? ⟨w.heap.size, 1, none⟩ = some (.int .i64 x.a) := by have := z1 1 _ rfl; simpa using this
  have y1_2 : w1.cell? ⟨w.heap.size, 2, none⟩ = some (.int .i64 x.b) := by have := z1 2 _ rfl; simpa using this
  have y1_3 : w1.cell? ⟨w.heap.size, 3, none⟩ = some (.int .i64 x.c) := by have := z1 3 _ rfl; simpa using this
  have y1_4 : w1.cell? ⟨w.heap.size, 4, none⟩ = some (.int .i64 x.d) := by have := z1 4 _ rfl; simpa using this
  clear hb1
  go_wp2_with fail
  obtain ⟨wq, rfl⟩ : ∃ wq : World, wq = w1 := ⟨_, rfl⟩
  have GQ := Lib.hid (HG.out.below B1.out)
  have hxl : w.heap.size < wq.heap.size := (World.block_lt_of_cell? wq ⟨w.heap.size, 0, none⟩ (by have := z1 0 _ rfl; simpa using this))
  have hne : some w.heap.size ≠ (Value.slice A n c).ownBlock := fun e => by have := (HG.out.pa.lt w.heap.size (by rw [HN.out] at e; exact e.symm)).2; omega
  have hnh : some h ≠ (Value.slice A n c).ownBlock := fun e => own_at HG.out.pa HG.out.hh (by decide) (by rw [HN.out] at e; exact e.symm)
  have HC : ∀ w2, wq.grownBy w2 (Value.slice A n c).ownBlock → w2.cell? ⟨w.heap.size, 0, none⟩ = some (.int .i64 9) ∧ w2.cell? ⟨w.heap.size, 1, none⟩ = some (.int .i64 x.a) ∧ w2.cell? ⟨w.heap.size, 2, none⟩ = some (.int .i64 x.b) ∧ w2.cell? ⟨w.heap.size, 3, none⟩ = some (.int .i64 x.c) ∧ w2.cell? ⟨w.heap.size, 4, none⟩ = some (.int .i64 x.d) ∧ w2.cell? ⟨w.heap.size, 5, none⟩ = some (.complex .f64 0 0) ∧ w2.cell? ⟨w.heap.size, 6, none⟩ = some (.int .u32 x.p.a) ∧ w2.cell? ⟨w.heap.size, 7, none⟩ = some (.int .i64 x.p.l) ∧ w2.cell? ⟨w.heap.size, 8, none⟩ = some (.bool false) ∧ w2.cell? ⟨h, 2, none⟩ = some (.slice A n c) := fun w2 hg => ⟨hg.cell (by have := z1 0 _ rfl; simpa using this) hne, hg.cell (by have := z1 1 _ rfl; simpa using this) hne, hg.cell (by have := z1 2 _ rfl; simpa using this) hne, hg.cell (by have := z1 3 _ rfl; simpa using this) hne, hg.cell (by have := z1 4 _ rfl; simpa using this) hne, hg.cell (by have := z1 5 _ rfl; simpa using this) hne, hg.cell (by have := z1 6 _ rfl; simpa using this) hne, hg.cell (by have := z1 7 _ rfl; simpa using this) hne, hg.cell (by have := z1 8 _ rfl; simpa using this) hne, hg.cell g2 hnh⟩
  obtain ⟨INS, IM, IE⟩ : ∃ I : Value → World → Prop, Hid (∀ (v : Value) (w2 : World), w2.ownsRow B 49 4 v (n + 1) ((ps.take k ++ (⟨x.p, x.a, x.c⟩ : Pn) :: ps.drop k).flatMap cPn) → I v w2) ∧ Hid (∀ (v : Value) (w2 : World), I v w2 → w2.ownsRow B 49 4 v (n + 1) ((ps.take k ++ (⟨x.p, x.a, x.c⟩ : Pn) :: ps.drop k).flatMap cPn)) := ⟨fun v w2 => w2.ownsRow B 49 4 v (n + 1) ((ps.take k ++ (⟨x.p, x.a, x.c⟩ : Pn) :: ps.drop k).flatMap cPn), Lib.hid (fun _ _ h => h), Lib.hid (fun _ _ h => h)⟩
  obtain ⟨DB, DM, DE⟩ : ∃ I : Value → World → Prop, Hid (∀ (v : Value) (w2 : World), (∃ g0, v = .slice (some ⟨g0, 0, none⟩) 1 1 ∧ w2.heap[g0]? = some (.cells (cPn (⟨x.p, x.a, x.c⟩ : Pn)).toArray 49 (0, 0)) ∧ (Value.slice A n c).ownBlock ≠ some g0) → I v w2) ∧ Hid (∀ (v : Value) (w2 : World), I v w2 → (∃ g0, v = .slice (some ⟨g0, 0, none⟩) 1 1 ∧ w2.heap[g0]? = some (.cells (cPn (⟨x.p, x.a, x.c⟩ : Pn)).toArray 49 (0, 0)) ∧ (Value.slice A n c).ownBlock ≠ some g0)) := ⟨fun v w2 => ∃ g0, v = .slice (some ⟨g0, 0, none⟩) 1 1 ∧ w2.heap[g0]? = some (.cells (cPn (⟨x.p, x.a, x.c⟩ : Pn)).toArray 49 (0, 0)) ∧ (Value.slice A n c).ownBlock ≠ some g0, Lib.hid (fun _ _ h => h), Lib.hid (fun _ _ h => h)⟩
  have HI : Hid (∀ (w2 : World) (vb' : Nat), w2.ownsRow B 49 4 (.slice A n c) n (ps.flatMap cPn) → w2.heap[vb']? = some (.cells (cPn (⟨x.p, x.a, x.c⟩ : Pn)).toArray 49 (0, 0)) → (Value.slice A n c).ownBlock ≠ some vb' → B ≤ w2.heap.size → Calls Try.prog 106 #[.slice A n c, .int .i64 (k : Int), .slice (some ⟨vb', 0, none⟩) 1 1] w2 fun e w' => ∃ v', e = .returned v' ∧ w'.ownsRow B 49 4 v' (n + 1) ((ps.take k ++ (⟨x.p, x.a, x.c⟩ : Pn) :: ps.drop k).flatMap cPn) ∧ w2.grownBy w' (Value.slice A n c).ownBlock) := Lib.hid (fun w2 vb' ho h1 h2 h3 => Insert_okPn ps (⟨x.p, x.a, x.c⟩ : Pn) B n k vb' _ w2 ho HN.out.symm hkn h1 h2 h3 (by omega))
  clear g1 z1 g2 y1_0 y1_1 y1_2 y1_3 y1_4
  refine Og.Joint.walk_lit 15 [[],[],[1],[2,1],[3,2,1],[],[],[6],[],[8],[],[10],[7,9,11,6,8,10],[12,7,9,11,6,8,10],[4,5,13,3,2,1,12,7,9,11,6,8,10],[0,1,2,3,4,5,6,7,8,9,10,11,12,13,14],[15,0,1,2,3,4,5,6,7,8,9,10,11,12,13,14],[16,14,0,1,2,3,4,5,6,7,8,9,10,11,12,13,15]] (CI wq (Value.slice A n c).ownBlock 14 INS) (fun a b => a.grownBy b (Value.slice A n c).ownBlock) (by kernel_rfl) (by kernel_rfl) (by kernel_rfl) (fun vs => ⟨⟨rfl, rfl, rfl, Nat.le_refl _, fun _ _ _ => rfl⟩, fun _ => bdrew, fun e => by cases e⟩) ?_
  simp only [List.take_succ_cons, List.take_zero, List.drop_succ_cons, List.drop_zero]
  refine Og.Joint.step_pure (fun p vs v w h => h.other (by decide)) (fun w => World.grownBy.refl w _) ?_; apply Exists.intro; refine And.intro ?_ ?_; focus (intro p vs w2 hC hk; have hm := HC w2 hC.1; refine Og.OptB.mk ?_; revert hk; simp only [Og.KS, Og.K0, Og.Is, List.getD_cons_zero, List.getD_cons_succ, List.getD_nil, List.contains_cons, List.contains_nil, Nat.reduceAdd, Nat.reduceBEq, Bool.or_false, Bool.false_or, Bool.or_true, Bool.true_or, Bool.false_eq_true, false_implies, true_implies, true_and, and_true, forall_const]; intros; go_simp; rfl)
  refine Og.Joint.step_pure (fun p vs v w h => h.other (by decide)) (fun w => World.grownBy.refl w _) ?_; apply Exists.intro; refine And.intro ?_ ?_; focus (intro p vs w2 hC hk; have hm := HC w2 hC.1; refine Og.OptB.mk ?_; revert hk; simp only [Og.KS, Og.K0, Og.Is, List.getD_cons_zero, List.getD_cons_succ, List.getD_nil, List.contains_cons, List.contains_nil, Nat.reduceAdd, Nat.reduceBEq, Bool.or_false, Bool.false_or, Bool.or_true, Bool.true_or, Bool.false_eq_true, false_implies, true_implies, true_and, and_true, forall_const]; intros; go_simp; rfl)
  refine Og.Joint.step_pure (fun p vs v w h => h.other (by decide)) (fun w => World.grownBy.refl w _) ?_; apply Exists.intro; refine And.intro ?_ ?_; focus (intro p vs w2 hC hk; have hm := HC w2 hC.1; refine Og.OptB.mk ?_; revert hk; simp only [Og.KS, Og.K0, Og.Is, List.getD_cons_zero, List.getD_cons_succ, List.getD_nil, List.contains_cons, List.contains_nil, Nat.reduceAdd, Nat.reduceBEq, Bool.or_false, Bool.false_or, Bool.or_true, Bool.true_or, Bool.false_eq_true, false_implies, true_implies, true_and, and_true, forall_const]; intros; go_simp; rfl)
  refine Og.Joint.step_pure (fun p vs v w h => h.other (by decide)) (fun w => World.grownBy.refl w _) ?_; apply Exists.intro; refine And.intro ?_ ?_; focus (intro p vs w2 hC hk; have hm := HC w2 hC.1; refine Og.OptB.mk ?_; revert hk; simp only [Og.KS, Og.K0, Og.Is, List.getD_cons_zero, List.getD_cons_succ, List.getD_nil, List.contains_cons, List.contains_nil, Nat.reduceAdd, Nat.reduceBEq, Bool.or_false, Bool.false_or, Bool.or_true, Bool.true_or, Bool.false_eq_true, false_implies, true_implies, true_and, and_true, forall_const]; intros; go_simp; rfl)
  refine Og.Joint.step_pure (fun p vs v w h => h.other (by decide)) (fun w => World.grownBy.refl w _) ?_; apply Exists.intro; refine And.intro ?_ ?_; focus (intro p vs w2 hC hk; have hm := HC w2 hC.1; refine Og.OptB.mk ?_; revert hk; simp only [Og.KS, Og.K0, Og.Is, List.getD_cons_zero, List.getD_cons_succ, List.getD_nil, List.contains_cons, List.contains_nil, Nat.reduceAdd, Nat.reduceBEq, Bool.or_false, Bool.false_or, Bool.or_true, Bool.true_or, Bool.false_eq_true, false_implies, true_implies, true_and, and_true, forall_const]; intros; go_simp; rfl)
  refine Og.Joint.step_pure (fun p vs v w h => h.other (by decide)) (fun w => World.grownBy.refl w _) ?_; apply Exists.intro; refine And.intro ?_ ?_; focus (intro p vs w2 hC hk; have hm := HC w2 hC.1; refine Og.OptB.mk ?_; revert hk; simp only [Og.KS, Og.K0, Og.Is, List.getD_cons_zero, List.getD_cons_succ, List.getD_nil, List.contains_cons, List.contains_nil, Nat.reduceAdd, Nat.reduceBEq, Bool.or_false, Bool.false_or, Bool.or_true, Bool.true_or, Bool.false_eq_true, false_implies, true_implies, true_and, and_true, forall_const]; intros; go_simp; rfl)
  refine Og.Joint.step_pure (fun p vs v w h => h.other (by decide)) (fun w => World.grownBy.refl w _) ?_; apply Exists.intro; refine And.intro ?_ ?_; focus (intro p vs w2 hC hk; have hm := HC w2 hC.1; refine Og.OptB.mk ?_; revert hk; simp only [Og.KS, Og.K0, Og.Is, List.getD_cons_zero, List.getD_cons_succ, List.getD_nil, List.contains_cons, List.contains_nil, Nat.reduceAdd, Nat.reduceBEq, Bool.or_false, Bool.false_or, Bool.or_true, Bool.true_or, Bool.false_eq_true, false_implies, true_implies, true_and, and_true, forall_const]; intros; go_simp; rfl)
  refine Og.Joint.step_pure (fun p vs v w h => h.other (by decide)) (fun w => World.grownBy.refl w _) ?_; apply Exists.intro; refine And.intro ?_ ?_; focus (intro p vs w2 hC hk; have hm := HC w2 hC.1; refine Og.OptB.mk ?_; revert hk; simp only [Og.KS, Og.K0, Og.Is, List.getD_cons_zero, List.getD_cons_succ, List.getD_nil, List.contains_cons, List.contains_nil, Nat.reduceAdd, Nat.reduceBEq, Bool.or_false, Bool.false_or, Bool.or_true, Bool.true_or, Bool.false_eq_true, false_implies, true_implies, true_and, and_true, forall_const]; intros; go_simp; rfl)
  refine Og.Joint.step_pure (fun p vs v w h => h.other (by decide)) (fun w => World.grownBy.refl w _) ?_; apply Exists.intro; refine And.intro ?_ ?_; focus (intro p vs w2 hC hk; have hm := HC w2 hC.1; refine Og.OptB.mk ?_; revert hk; simp only [Og.KS, Og.K0, Og.Is, List.getD_cons_zero, List.getD_cons_succ, List.getD_nil, List.contains_cons, List.contains_nil, Nat.reduceAdd, Nat.reduceBEq, Bool.or_false, Bool.false_or, Bool.or_true, Bool.true_or, Bool.false_eq_true, false_implies, true_implies, true_and, and_true, forall_const]; intros; go_simp; rfl)
  refine Og.Joint.step_pure (fun p vs v w h => h.other (by decide)) (fun w => World.grownBy.refl w _) ?_; apply Exists.intro; refine And.intro ?_ ?_; focus (intro p vs w2 hC hk; have hm := HC w2 hC.1; refine Og.OptB.mk ?_; revert hk; simp only [Og.KS, Og.K0, Og.Is, List.getD_cons_zero, List.getD_cons_succ, List.getD_nil, List.contains_cons, List.contains_nil, Nat.reduceAdd, Nat.reduceBEq, Bool.or_false, Bool.false_or, Bool.or_true, Bool.true_or, Bool.false_eq_true, false_implies, true_implies, true_and, and_true, forall_const]; intros; go_simp; rfl)
  refine Og.Joint.step_pure (fun p vs v w h => h.other (by decide)) (fun w => World.grownBy.refl w _) ?_; apply Exists.intro; refine And.intro ?_ ?_; focus (intro p vs w2 hC hk; have hm := HC w2 hC.1; refine Og.OptB.mk ?_; revert hk; simp only [Og.KS, Og.K0, Og.Is, List.getD_cons_zero, List.getD_cons_succ, List.getD_nil, List.contains_cons, List.contains_nil, Nat.reduceAdd, Nat.reduceBEq, Bool.or_false, Bool.false_or, Bool.or_true, Bool.true_or, Bool.false_eq_true, false_implies, true_implies, true_and, and_true, forall_const]; intros; go_simp; rfl)
  refine Og.Joint.step_pure (fun p vs v w h => h.other (by decide)) (fun w => World.grownBy.refl w _) ?_; apply Exists.intro; refine And.intro ?_ ?_; focus (intro p vs w2 hC hk; have hm := HC w2 hC.1; refine Og.OptB.mk ?_; revert hk; simp only [Og.KS, Og.K0, Og.Is, List.getD_cons_zero, List.getD_cons_succ, List.getD_nil, List.contains_cons, List.contains_nil, Nat.reduceAdd, Nat.reduceBEq, Bool.or_false, Bool.false_or, Bool.or_true, Bool.true_or, Bool.false_eq_true, false_implies, true_implies, true_and, and_true, forall_const]; intros; go_simp; rfl)
  refine Og.Joint.step_pure (fun p vs v w h => h.other (by decide)) (fun w => World.grownBy.refl w _) ?_; apply Exists.intro; refine And.intro ?_ ?_; focus (intro p vs w2 hC hk; have hm := HC w2 hC.1; refine Og.OptB.mk ?_; revert hk; simp only [Og.KS, Og.K0, Og.Is, List.getD_cons_zero, List.getD_cons_succ, List.getD_nil, List.contains_cons, List.contains_nil, Nat.reduceAdd, Nat.reduceBEq, Bool.or_false, Bool.false_or, Bool.or_true, Bool.true_or, Bool.false_eq_true, false_implies, true_implies, true_and, and_true, forall_const]; intros; go_simp; rfl)
  refine Og.Joint.step_any DB (fun v w2 w3 hr hd => by obtain ⟨g0, e0, h0, hne0⟩ := DE.out _ _ hd; exact DM.out _ _ ⟨g0, e0, heap_grown hr h0 (fun e => hne0 e.symm), hne0⟩) ?_ ?_; focus (intro p vs w2 hp hC hk; refine Og.OptB.mk ?_; revert hk; simp only [Og.KS, Og.K0, Og.Is, List.getD_cons_zero, List.getD_cons_succ, List.getD_nil, List.contains_cons, List.contains_nil, Nat.reduceAdd, Nat.reduceBEq, Bool.or_false, Bool.false_or, Bool.or_true, Bool.true_or, Bool.false_eq_true, false_implies, true_implies, true_and, and_true, forall_const]; intro hk; go_simp; exact ⟨hC.alloc (by decide) (fun v w3 o hi => IM.out _ _ ((IE.out _ _ hi).alloc o)) _, World.grownBy_alloc _ _ _, DM.out _ _ ⟨_, rfl, heap_at rfl, fun e => Nat.lt_irrefl w2.heap.size (Nat.lt_of_lt_of_le (GQ.out.pa.lt _ (by rw [HN.out] at e; exact e)).2 hC.1.size)⟩⟩)
  refine Og.Joint.step_any (fun _ _ => True) (fun _ _ _ _ _ => trivial) ?_ ?_; focus (intro p vs w2 hp hC hk; have b2 := hC.2.1 hp; have ow := GQ.out.pa; rw [← HN.out] at ow; have ow2 := own_below ow b2; refine Og.OptB.mk ?_; revert hk; simp only [Og.KS, Og.K0, Og.Is, List.getD_cons_zero, List.getD_cons_succ, List.getD_nil, List.contains_cons, List.contains_nil, Nat.reduceAdd, Nat.reduceBEq, Bool.or_false, Bool.false_or, Bool.or_true, Bool.true_or, Bool.false_eq_true, false_implies, true_implies, true_and, and_true, forall_const]; intro hk; obtain ⟨hdb, hk⟩ := hk; obtain ⟨g0, e0, h0, hne0⟩ := DE.out _ _ hdb; simp only [hk, e0]; go_simp; refine (HI.out w2 g0 ow2 h0 hne0 (Nat.le_trans hBw (Nat.le_trans B1.out.size b2.size))).mono ?_; rintro e w3 ⟨v3, rfl, ho3, hg3⟩; exact Og.RetV.mk ⟨hC.ins hg3 (IM.out _ _ ho3), hg3⟩)
  intro p vs w2 hp hC hk
  have hins := IE.out _ _ (hC.2.2 (hp 14 (by decide)))
  have hgq := hC.1
  simp only [Og.KS, Og.K0, Og.Is, List.getD_cons_zero, List.getD_cons_succ, List.getD_nil, List.contains_cons, List.contains_nil, Nat.reduceAdd, Nat.reduceBEq, Bool.or_false, Bool.false_or, Bool.or_true, Bool.true_or, Bool.false_eq_true, false_implies, true_implies, true_and, and_true, forall_const] at hk
  obtain ⟨hdb, hk⟩ := hk
  obtain ⟨g0, e0, _⟩ := DE.out _ _ hdb
  obtain ⟨A3, c3, hv3, _⟩ := Sl_of_row (xs := (ps.take k ++ (⟨x.p, x.a, x.c⟩ : Pn) :: ps.drop k)) cPn_len (by omega) hins (by simp only [List.length_append, List.length_cons, List.length_take, List.length_drop]; rw [← HN.out]; omega)
  have HNL := Lib.hid (show n + 1 = (ps.take k ++ (⟨x.p, x.a, x.c⟩ : Pn) :: ps.drop k).length by simp only [List.length_append, List.length_cons, List.length_take, List.length_drop]; rw [← HN.out]; omega)
  rw [← HNL.out] at hv3
  rw [hv3] at hins
  simp only [hk, e0, hv3, Act.put, List.setIfInBounds_toArray, List.set_cons_zero, List.set_cons_succ]
  have G2 := Lib.hid (GS.setP (v' := .slice A3 (n + 1) c3) (by have := GQ.out; exact this) (by rw [← HN.out]; exact hgq) (by rw [← HNL.out]; exact hins))
  have B2 := Lib.hid (((B1.out.mono hBw).grown hgq (by have := B1.out.size; omega) (fun j hj => (HG.out.pa.lt j (by rw [← HN.out]; exact hj)).1)).setCell (p := ⟨h, 2, none⟩) HG.out.hB (.slice A3 (n + 1) c3))
  have hh2 := heap_grown hgq GQ.out.hh (fun e => own_at GQ.out.pa GQ.out.hh (by decide) (by rw [← HN.out]; exact e.symm))
  have g8 : w2.cell? ⟨h, 2, none⟩ = some (.slice A n c) := by rw [HN.out]; simp [World.cell?, hh2]
  have f8 : w2.frozen? ⟨h, 2, none⟩ = false := by simp [World.frozen?, hh2]
  clear hk e0 hv3 hdb IM IE DM DE hp hC hins hgq hh2 HC
  go_wp2_with fail
  go_ret
  exact ⟨rfl, ⟨_, G2.out⟩, B2.out⟩

end Go.Proofs.Ytpklcefiabjplaa
