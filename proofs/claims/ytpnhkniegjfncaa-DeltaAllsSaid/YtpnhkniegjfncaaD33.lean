/- causewaylaw16.DeltaAlls returns true; conditions: the routes fit the memory, the addresses are uint32. -/
import Derived.Test.YtpnhkniegjfncaaDU
import Derived.Test.YtpnhkniegjfncaaD16
import Derived.Test.YtpnhkniegjfncaaD24
import Derived.Test.YtpnhkniegjfncaaD8
import Derived.Test.YtpnhkniegjfncaaDL
namespace Go.Proofs.Ytpnhkniegjfncaa
open Go.ChangeShapes Go.WideShapes Go.ChangeAt Go.RowKit
set_option linter.unusedVariables false
set_option linter.unusedSimpArgs false
attribute [local go_sem] Og.Opt Og.OpY Oper.semAt_some
attribute [local go_sem high] eqB1 eqP1 eqR1 eqC1

def encC (x : Ch) : Array Value := #[.agg #[.int .i64 x.k, .int .u32 x.o.p.a, .int .i64 x.o.p.l, .int .i64 x.o.m, .int .u64 x.o.o0, .int .u64 x.o.o1, .int .u64 x.o.h0, .int .u64 x.o.h1, .int .u32 x.n.p.a, .int .i64 x.n.p.l, .int .i64 x.n.m, .int .u64 x.n.o0, .int .u64 x.n.o1, .int .u64 x.n.h0, .int .u64 x.n.h1]]
/-- an iterator over Z, whatever becomes of the memory below B -/
def Seqs (B : Nat) (w : World) (gf : Nat) (lb : Array Value) (Z : List Ch) : Prop :=
  (∀ args w, (callFunc gf args).run Try.prog w = .ok (.enter gf args) w) ∧
  ∀ wk, Upper B w wk → ∀ W0, Below wk.heap.size wk W0 → SeqStopsK Fence.wide 5 Try.prog gf lb (fun x : Ch => #[.agg #[.int .i64 x.k, .int .u32 x.o.p.a, .int .i64 x.o.p.l, .int .i64 x.o.m, .int .u64 x.o.o0, .int .u64 x.o.o1, .int .u64 x.o.h0, .int .u64 x.o.h1, .int .u32 x.n.p.a, .int .i64 x.n.p.l, .int .i64 x.n.m, .int .u64 x.n.o0, .int .u64 x.n.o1, .int .u64 x.n.h0, .int .u64 x.n.h1]]) (Below wk.heap.size) (fun zs => zs = Z) (fun pre => pre <+: Z) Z.length W0
theorem Seqs.upper {B : Nat} {w w' : World} {gf : Nat} {lb : Array Value} {Z : List Ch} (h : Seqs B w gf lb Z) (k : Upper B w w') : Seqs B w' gf lb Z := ⟨h.1, fun wk hu => h.2 wk (k.trans hu)⟩
/-- what stays while the two tables are made zero -/
def ZF (w w8 : World) (B3 gb cb ny base2 : Nat) (ys : List Ro) (stop : Int) (wr : World) : Prop := Below w.heap.size w wr ∧ Upper B3 w8 wr ∧ wr.ownsRow base2 40 7 (.slice (some ⟨gb, 0, none⟩) ny cb) ny (ys.flatMap rcV) ∧ Boxed wr w.heap.size 3 (.int .i64 stop) ∧ Boxed wr (w.heap.size + 1) 4 (.bool false)
theorem own_others {w w' : World} {base e sz n g g' cap : Nat} {xs : List Value} (h : w.ownsRow base e sz (.slice (some ⟨g, 0, none⟩) n cap) n xs) (ho : ∀ j, j ≠ g' → w'.heap[j]? = w.heap[j]?) (hne : g ≠ g') : w'.ownsRow base e sz (.slice (some ⟨g, 0, none⟩) n cap) n xs := by
  refine ⟨h.1, ?_⟩
  rcases h.2 with ⟨h0, _⟩ | ⟨g1, cap1, cur, hv, hb, hg, r⟩
  · cases h0
  · cases hv
    exact .inr ⟨g, cap, cur, rfl, hb, (ho g hne).trans hg, r⟩
theorem ZF.step {w w8 wr w9 : World} {B3 gb cb ny base2 ga : Nat} {ys : List Ro} {stop : Int} (h : ZF w w8 B3 gb cb ny base2 ys stop wr) (hs : w9.heap.size = wr.heap.size) (ho : ∀ j, j ≠ ga → w9.heap[j]? = wr.heap[j]?) (h1 : w.heap.size + 2 ≤ ga) (h2 : ga < gb) (h3 : ga < B3) (hb : ∀ B, B ≤ ga → Below B wr w9) : ZF w w8 B3 gb cb ny base2 ys stop w9 :=
  ⟨h.1.trans (hb _ (by omega)), h.2.1.trans (Upper.others hs ho h3), own_others h.2.2.1 ho (by omega), Boxed.others h.2.2.2.1 ho (by omega), Boxed.others h.2.2.2.2 ho (by omega)⟩
theorem ZF.stepB {w w8 wr w9 : World} {B3 gb cb ny base2 : Nat} {ys zs : List Ro} {stop : Int} (h : ZF w w8 B3 gb cb ny base2 ys stop wr) (hr : w9.ownsRow base2 40 7 (.slice (some ⟨gb, 0, none⟩) ny cb) ny (zs.flatMap rcV)) (hs : w9.heap.size = wr.heap.size) (ho : ∀ j, j ≠ gb → w9.heap[j]? = wr.heap[j]?) (hb : ∀ B, B ≤ gb → Below B wr w9) (h1 : w.heap.size + 2 ≤ gb) (h3 : gb < B3) : ZF w w8 B3 gb cb ny base2 zs stop w9 :=
  ⟨h.1.trans (hb _ (by omega)), h.2.1.trans (Upper.others hs ho h3), hr, Boxed.others h.2.2.2.1 ho (by omega), Boxed.others h.2.2.2.2 ho (by omega)⟩
theorem wpIn_loop_ghost {F : Fence} {n : Nat} {P : Program} {Q : Exit → Act → World → Prop} {a : Act} {w : World} {c : Code} (I : Nat → Act → World → Prop) (n₀ : Nat) (h₀ : I n₀ a w)
    (round : ∀ m a w, I m a w → ∀ (K : Act → World → Prop), (∀ m' a' w', m' < m → I m' a' w' → K a' w') → c.wpIn F n P (Exit.then K Q) a w) : (Code.loop c).wpIn F n P Q a w := by
  refine wpIn_loop (fun a w => ∃ m, I m a w) (fun a w => leastOf (fun m => I m a w)) ⟨n₀, h₀⟩ (fun a w hI => ?_)
  exact round _ a w (leastOf_spec hI).1 _ (fun m' a' w' hlt hI' => ⟨⟨m', hI'⟩, Nat.lt_of_le_of_lt ((leastOf_spec ⟨m', hI'⟩).2 m' hI') hlt⟩)
/-- what is known at the head of the loop's rounds -/
def LF (wo : World) (Bk k : Nat) (Ds : List Nat) (wr : World) : Prop := Boxed wr Bk 3 (.int .i64 (k : Int)) ∧ wo.heap.size ≤ Bk ∧ Below wo.heap.size wo wr ∧ Ds.Nodup ∧ ∀ D ∈ Ds, wo.heap.size ≤ D ∧ wr.heap[D]? = some (.deferred (some []))
theorem LF.next {wo wr W W' : World} {Bk k D : Nat} {Ds : List Nat} (h : LF wo Bk k Ds wr) (hB : Below wr.heap.size wr W) (hD : wr.heap.size ≤ D) (hW : W.heap[D]? = some (.deferred (some []))) (hW' : Below W.heap.size W W') (hb : Boxed W' W.heap.size 3 (.int .i64 ((k + 1 : Nat) : Int))) : LF wo W.heap.size (k + 1) (D :: Ds) W' := by
  obtain ⟨h1, h2, h3, h4, h5⟩ := h
  have hs := h3.size
  have hs2 := hB.size
  refine ⟨hb, by omega, bthen' (bthen' h3 hs hB) (by omega) hW', List.nodup_cons.2 ⟨fun hm => ?_, h4⟩, fun E hE => ?_⟩
  · have := (Array.getElem?_eq_some_iff.1 (h5 D hm).2).1
    omega
  · rcases List.mem_cons.1 hE with rfl | hE
    · exact ⟨by omega, (hW'.block _ (Array.getElem?_eq_some_iff.1 hW).1).trans hW⟩
    · have hE2 := (Array.getElem?_eq_some_iff.1 (h5 E hE).2).1
      exact ⟨(h5 E hE).1, (hW'.block _ (by omega)).trans ((hB.block _ hE2).trans (h5 E hE).2)⟩
theorem eqCv (d : Nat) (w : World) (x y : Ch) : (Op.equalIn (d + 4) 42 (vC x) (vC y)).run Try.prog w = .ok (decide (x = y)) w := (eqC1 d w _ _ _ _ _ _ _ _ _ _ _ _ _ _ _ _ _ _ _ _ _ _ _ _ _ _ _ _ _ _).trans (by rw [eqCb_of])
theorem neqCv (x z : Ch) (w : World) : (binOp .neq 42 (vC x) (vC z)).run Try.prog w = .ok (.bool (!decide (x = z))) w := by
  have := eqCv 9996 w x z
  unfold vC at *
  simp only [binOp]
  simp [Op.equal, Op.maxDepth, this]
theorem grdC (x z : Ch) (t1 t2 : Operand) (w : World) : (eqGuard .neq 42 t1 t2 (vC x) (vC z)).run Try.prog w = .ok () w := by kernel_rfl
theorem optB_neqC {ops : Array Oper} {o : Oper} {a : Act} {w : World} {R : Value → World → Prop} {x z : Ch} {t1 t2 : Operand} {ty : TypeId} (hw : Region.wanted o (yielded ops a.tmps) = true) (ho : o.op = .binOp .neq 42 t1 t2 ty) (h1 : a.eval t1 = vC x) (h2 : a.eval t2 = vC z) (hR : R (.bool (!decide (x = z))) w) : Og.OptB Try.prog ops o a w R := by
  refine ⟨opt_of_wanted hw ?_⟩
  unfold Og.OpY execOp
  simp only [ho, h1, h2, Sem.run_bind, grdC, neqCv, Result.andThen_ok, Sem.run_pure]
  exact hR
theorem seqs_no (B : Nat) (w : World) : Seqs B w 23 #[] [] := by
  refine ⟨enters_of Try.func23 (by kernel_rfl) rfl, fun wk _ W0 _ => ?_⟩
  intro l J Jx W hW hJ hJx hY h0
  refine callsIn_of_wp Try.func23 rfl trivial ?_ rfl
  gi_wp2_with fail
  go_end0
  exact ⟨⟨_, rfl⟩, .inl h0⟩
theorem seqs_yes (B Ba Bb : Nat) (xs ys : List Ro) (w : World) (hl : xs.length ≤ 2513169434843) (hl' : ys.length ≤ 2513169434843) (ha : BoxR B w Ba xs) (hb : BoxR B w Bb ys) : Seqs B w 25 #[.pointer (some ⟨Ba, 0, none⟩), .pointer (some ⟨Bb, 0, none⟩)] (mrgK xs ys) := by
  refine ⟨enters_of Try.func25 (by kernel_rfl) rfl, fun wk hu W0 hB0 => ?_⟩
  obtain ⟨ha0, va, ha1, ha2⟩ := ha.upper hu
  obtain ⟨hb0, vb, hb1, hb2⟩ := hb.upper hu
  exact iter_stops 5 (by omega) Ba Bb wk.heap.size xs ys hl hl' W0 va vb (boxed_below ha1 hB0).cell (boxed_below hb1 hB0).cell hB0.size ((slAt_of ha2).below hB0) ((slAt_of hb2).below hB0)

attribute [local go_sem high] eqCv
set_option maxRecDepth 100000 in
set_option maxHeartbeats 8000000 in
theorem DeltaAlls_core (xs ys : List Ro) (Z : List Ch) (er : Int) (A A' : Option Addr) (c c' : Nat) (stop : Int) (w : World) (hr : RdR w A xs) (hr' : RdR w A' ys) (hA0 : A = none → c = 0) (hA0' : A' = none → c' = 0) (hl : xs.length ≤ 2513169434843) (hl' : ys.length ≤ 2513169434843) (hZ : Z.length ≤ 1125899906842624)
    (hA : ∀ (w2 : World) (A2 A3 : Option Addr) (c2 c3 : Nat), RdR w2 A2 xs → RdR w2 A3 ys → (A2 = none → c2 = 0) → (A3 = none → c3 = 0) → Calls Try.prog 10 #[.slice A2 xs.length c2, .slice A3 ys.length c3] w2 fun e w' => (∃ gf lb, e = .returned (.tuple #[.func (.func gf) #[] lb, .int .i64 er]) ∧ Seqs w2.heap.size w' gf lb Z) ∧ Below w2.heap.size w2 w')
    (hR : ∀ w2, Below w.heap.size w w2 → Calls Try.prog 11 #[.slice A xs.length c, .slice A' ys.length c'] w2 fun e w' => (∃ v, e = .returned (.tuple #[v, .int .i64 er]) ∧ SlC w2.heap.size w' v Z) ∧ Below w2.heap.size w2 w') :
    Calls Try.prog 3 #[.slice A xs.length c, .slice A' ys.length c', .int .i64 stop] w fun e w' => e = .returned (.bool true) ∧ Below w.heap.size w w' := by
  refine (callsIn_wide (n := 6)).1 ?_
  have HA := Lib.hid hA
  have HR := Lib.hid hR
  have HX := Lib.hid (And.intro hr hA0)
  have HY := Lib.hid (And.intro hr' hA0')
  have HL := Lib.hid (And.intro hl hl')
  obtain ⟨nz, hnz⟩ : ∃ n, n = Z.length := ⟨_, rfl⟩
  have HNZ := Lib.hid hnz
  rw [← hnz] at hZ
  clear hnz
  obtain ⟨nx, hnx⟩ : ∃ n, n = xs.length := ⟨_, rfl⟩
  obtain ⟨ny, hny⟩ : ∃ n, n = ys.length := ⟨_, rfl⟩
  have HNX := Lib.hid hnx
  have HNY := Lib.hid hny
  rw [← hnx] at HA HR hl ⊢
  rw [← hny] at HA HR hl' ⊢
  have ter : (er != er) = false := by simp
  clear hA hR hr hr' hA0 hA0' hnx hny
  refine callsIn_of_wp_marks Try.func3 rfl trivial ?_ rfl
  simp only [Try.ntmps3, List.size_toArray, List.length_cons, List.length_nil, Nat.reduceAdd, Nat.reduceSub, Array.replicate_succ, Array.replicate_zero, List.push_toArray, List.append_toArray, List.nil_append, List.cons_append]
  gi_wp2_with fail
  obtain ⟨W1, hW⟩ : ∃ W1, W1 = (w.alloc (Obj.cells #[.int .i64 stop] 3)).alloc (Obj.cells #[.bool false] 4) := ⟨_, rfl⟩
  have hB1 : Below w.heap.size w W1 := by rw [hW]; exact ((Below.refl _ _).alloc (Nat.le_refl _) _).alloc (by simp) _
  have b5 : Boxed W1 w.heap.size 3 (.int .i64 stop) := by rw [hW]; exact (Boxed.new w 3 _).alloc _
  have b6 : Boxed W1 (w.heap.size + 1) 4 (.bool false) := by
    rw [hW]
    have := Boxed.new (w.alloc (Obj.cells #[.int .i64 stop] 3)) 4 (.bool false)
    simpa only [World.size_alloc] using this
  have hs1 : W1.heap.size = w.heap.size + 2 := by rw [hW]; simp
  rw [← hW]
  clear hW
  refine ⟨trivial, CallsIn.mono (callsIn_wide.2 (awake_ok W1)) ?_⟩
  rintro e w1 ⟨rfl, hb1⟩
  have B1 := Lib.hid (bthen' hB1 hB1.size hb1)
  have BB1 := Lib.hid (And.intro (boxed_below b5 hb1) (boxed_below b6 hb1))
  have SZ1 := Lib.hid (show w.heap.size + 2 ≤ w1.heap.size by have := hb1.size; omega)
  clear hB1 b5 b6 hb1 hs1
  gi_wp2_with (gi_at_builtin; first
    | (refine wpListIn_spreadR rfl (.tmp 20) (.tmp 21) rfl w1.heap.size (.slice (some ⟨w1.heap.size, 0, none⟩) 0 0) rfl (fresh_row w1 40 7 w1.heap.size (Nat.le_refl _)) (by simp) (by simp) xs HL.out.1 A c (by rw [← HNX.out]; rfl) (HX.out.1.below (B1.out.alloc B1.out.size _)) HX.out.2 ?_; intro va w2 hown2 hv2 hgrow2; have RA := Lib.hid (And.intro hown2 hv2); have B2 := Lib.hid (((Below.refl w1.heap.size w1).alloc (Nat.le_refl _) (Obj.cells #[] 40)).grown hgrow2 (by simp) (fun j hj => by simp [Value.ownBlock] at hj; omega)); clear hown2 hv2 hgrow2)
    | (refine wpListIn_spreadR rfl (.tmp 23) (.tmp 24) rfl w2.heap.size (.slice (some ⟨w2.heap.size, 0, none⟩) 0 0) rfl (fresh_row w2 40 7 w2.heap.size (Nat.le_refl _)) (by simp) (by simp) ys HL.out.2 A' c' (by rw [← HNY.out]; rfl) (HY.out.1.below ((bthen' B1.out B1.out.size B2.out).alloc (by have := B1.out.size; have := B2.out.size; omega) _)) HY.out.2 ?_; intro vb w3 hown3 hv3 hgrow3; have RB := Lib.hid (And.intro hown3 hv3); have B3 := Lib.hid (((Below.refl w2.heap.size w2).alloc (Nat.le_refl _) (Obj.cells #[] 40)).grown hgrow3 (by simp) (fun j hj => by simp [Value.ownBlock] at hj; omega)); clear hown3 hv3 hgrow3))
  obtain ⟨ga, ca, rfl, hga, hga2⟩ := own_some RA.out.1 RA.out.2
  obtain ⟨gb, cb, rfl, hgb, hgb2⟩ := own_some RB.out.1 RB.out.2
  have RA3 := Lib.hid (own_below RA.out.1 B3.out)
  have RDA : RdR w3 (some ⟨ga, 0, none⟩) xs := by obtain ⟨A9, c9, he, h1, _⟩ := SlR_of_row RA3.out rfl; cases he; exact h1
  have RDB : RdR w3 (some ⟨gb, 0, none⟩) ys := by obtain ⟨A9, c9, he, h1, _⟩ := SlR_of_row RB.out.1 rfl; cases he; exact h1
  have BW3 := Lib.hid (bthen' (bthen' B1.out B1.out.size B2.out) (by have := B1.out.size; have := B2.out.size; omega) B3.out)
  have BB3 := Lib.hid (show Boxed w3 w.heap.size 3 (.int .i64 stop) ∧ Boxed w3 (w.heap.size + 1) 4 (.bool false) from ⟨boxed_below (boxed_below BB1.out.1 B2.out) B3.out, boxed_below (boxed_below BB1.out.2 B2.out) B3.out⟩)
  have GG := Lib.hid (show w.heap.size + 2 ≤ ga ∧ ga < gb ∧ gb < w3.heap.size from ⟨by have := SZ1.out; omega, by omega, hgb2⟩)
  have RRA := Lib.hid RDA
  have RRB := Lib.hid RDB
  clear RA hga hga2 hgb hgb2 RDA RDB BB1 SZ1
  rw [← HNX.out, ← HNY.out]
  refine ⟨trivial, CallsIn.mono (callsIn_wide.2 (HA.out w3 (some ⟨ga, 0, none⟩) (some ⟨gb, 0, none⟩) ca cb RRA.out RRB.out (fun h => (by cases h)) (fun h => (by cases h)))) ?_⟩
  rintro e w4 ⟨⟨gf, lb, rfl, hsq⟩, hb4⟩
  have SQ := Lib.hid hsq
  have B34 := Lib.hid hb4
  have BW4 := Lib.hid (bthen' BW3.out BW3.out.size hb4)
  clear hsq hb4 HA
  gi_wp2_with fail
  refine ⟨trivial, CallsIn.mono (callsIn_wide.2 (HR.out w4 BW4.out)) ?_⟩
  rintro e w5 ⟨⟨vw, rfl, hsw⟩, hb5⟩
  have SW := Lib.hid hsw
  obtain ⟨AW, cW, rfl, _, _, _, _⟩ := hsw
  rw [← HNZ.out]
  have B45 := Lib.hid hb5
  have B35 := Lib.hid (bthen' B34.out B34.out.size hb5)
  have BW5 := Lib.hid (bthen' BW4.out BW4.out.size hb5)
  have hnil := fun w => func_nil lb gf w
  clear hb5 HR
  gi_wp2_with fail
  obtain ⟨w6, hw6⟩ : ∃ w6, w5.alloc (Obj.cells #[.slice AW nz cW] 29) = w6 := ⟨_, rfl⟩
  have B56 := Lib.hid (show Below w5.heap.size w5 w6 by rw [← hw6]; exact (Below.refl _ _).alloc (Nat.le_refl _) _)
  have XT := Lib.hid (show Boxed w6 w5.heap.size 29 (.slice AW nz cW) by rw [← hw6]; exact Boxed.new w5 29 (.slice AW nz cW))
  rw [hw6]
  clear hw6
  have B36 := Lib.hid (bthen' B35.out B35.out.size B56.out)
  have HS1 := Lib.hid (Same_ok xs xs (some ⟨ga, 0, none⟩) A ca c w6 (RRA.out.below B36.out) (HX.out.1.below (bthen' BW5.out BW5.out.size B56.out)) (by have := HL.out.1; omega) (by have := HL.out.1; omega))
  rw [← HNX.out, decide_eq_true rfl] at HS1
  refine ⟨trivial, CallsIn.mono (callsIn_wide.2 HS1.out) ?_⟩
  rintro e w7 ⟨rfl, hb7⟩
  have B57 := Lib.hid (bthen' B56.out B56.out.size hb7)
  have XT7 := Lib.hid (boxed_below XT.out hb7)
  clear hb7 HS1 XT
  gi_wp2_with fail
  have B37 := Lib.hid (bthen' B35.out B35.out.size B57.out)
  have HS2 := Lib.hid (Same_ok ys ys (some ⟨gb, 0, none⟩) A' cb c' w7 (RRB.out.below B37.out) (HY.out.1.below (bthen' BW5.out BW5.out.size B57.out)) (by have := HL.out.2; omega) (by have := HL.out.2; omega))
  rw [← HNY.out, decide_eq_true rfl] at HS2
  refine ⟨trivial, CallsIn.mono (callsIn_wide.2 HS2.out) ?_⟩
  rintro e w8 ⟨rfl, hb8⟩
  have B58 := Lib.hid (bthen' B57.out B57.out.size hb8)
  have XT8 := Lib.hid (boxed_below XT7.out hb8)
  clear hb8 HS2 XT7 B36 B37
  have B38 := Lib.hid (bthen' B35.out B35.out.size B58.out)
  have SQ8 := Lib.hid (SQ.out.upper (Upper.of_below (bthen' B45.out B45.out.size B58.out)))
  have SW8 := Lib.hid (SW.out.below B58.out)
  have Z8 := Lib.hid (show ZF w w8 w3.heap.size gb cb ny w2.heap.size ys stop w8 from ⟨bthen' BW5.out BW5.out.size B58.out, Upper.refl _ _, by rw [HNY.out]; exact own_below RB.out.1 B38.out, boxed_below BB3.out.1 B38.out, boxed_below BB3.out.2 B38.out⟩)
  have RA8 := Lib.hid (show w8.ownsRow w1.heap.size 40 7 (.slice (some ⟨ga, 0, none⟩) nx ca) nx (xs.flatMap rcV) by rw [HNX.out]; exact own_below RA3.out B38.out)
  have SZ := Lib.hid (show w3.heap.size ≤ w4.heap.size ∧ w4.heap.size ≤ w5.heap.size ∧ w5.heap.size ≤ w8.heap.size from ⟨B34.out.size, B45.out.size, B58.out.size⟩)
  clear SQ SW RB RA3 BB3 B38 B58 B57 B56 B45 B35 B34 BW3 BW4 BW5 RRA RRB B2 B3 B1 HX HY
  gi_wp2_with fail
  gi_loopw [13] (fun i wr => ∃ (k : Nat) (zs : List Ro), k ≤ nx ∧ i = .int .i64 k ∧ Hid (zs.length = nx) ∧ Hid (wr.ownsRow w1.heap.size 40 7 (.slice (some ⟨ga, 0, none⟩) nx ca) nx (zs.flatMap rcV)) ∧ Hid (ZF w w8 w3.heap.size gb cb ny w2.heap.size ys stop wr)) (fun i _ => nx - (intOf i).toNat)
  case atStart => exact ⟨0, xs, Nat.zero_le _, rfl, Lib.hid HNX.out.symm, RA8, Z8⟩
  case round =>
    clear RA8 Z8
    obtain ⟨k, zs, hk, rfl, hzs, hown, hz⟩ := hrel
    by_cases hlt : k < nx
    · have hwk : IntKind.i64.wrap (k : Int) = k := wrapk (by omega)
      have hk0 : (0 : Int) ≤ (k : Int) := by omega
      have hkn : (k : Int) < (nx : Int) := by omega
      gi_wp2_with (refine wpListIn_storeR zR rfl (.tmp 66) (.tmp 65) rfl rfl hown.out hzs.out hlt rfl rfl ?_; intro w9 hown9 hs9 ho9 hb9; have HO9 := Lib.hid hown9; have Z9 := Lib.hid (hz.out.step hs9 ho9 (by have := GG.out; omega) (by have := GG.out; omega) (by have := GG.out; omega) hb9); clear hown9 hs9 ho9 hb9)
      go_roundw
      case rel => exact ⟨k + 1, zs.set k zR, by omega, by go_num, Lib.hid (by rw [List.length_set]; exact hzs.out), HO9, Z9⟩
      case measure => simp [intOf]; omega
    · have hkn : k = nx := by omega
      subst hkn
      obtain ⟨wo, rfl⟩ : ∃ wo : World, wo = wr := ⟨_, rfl⟩
      have Z8 := hz
      obtain ⟨nx, rfl⟩ : ∃ nx : Nat, nx = k := ⟨_, rfl⟩
      clear hown hz hk hlt hzs
      gi_wp2_with fail
      gi_loopw [14] (fun i wr => ∃ (k : Nat) (zs : List Ro), k ≤ ny ∧ i = .int .i64 k ∧ Hid (zs.length = ny) ∧ Hid (ZF w w8 w3.heap.size gb cb ny w2.heap.size zs stop wr)) (fun i _ => ny - (intOf i).toNat)
      case atStart => exact ⟨0, ys, Nat.zero_le _, rfl, Lib.hid HNY.out.symm, Z8⟩
      case round =>
        clear Z8
        obtain ⟨k, zs, hk, rfl, hzs, hz⟩ := hrel
        by_cases hlt : k < ny
        · have hwk : IntKind.i64.wrap (k : Int) = k := wrapk (by omega)
          have hk0 : (0 : Int) ≤ (k : Int) := by omega
          have hkn : (k : Int) < (ny : Int) := by omega
          gi_wp2_with (refine wpListIn_storeR zR rfl (.tmp 76) (.tmp 75) rfl rfl hz.out.2.2.1 hzs.out hlt rfl rfl ?_; intro w9 hown9 hs9 ho9 hb9; have Z9 := Lib.hid (hz.out.stepB hown9 hs9 ho9 hb9 (by have := GG.out; omega) (by have := GG.out; omega)); clear hown9 hs9 ho9 hb9)
          go_roundw
          case rel => exact ⟨k + 1, zs.set k zR, by omega, by go_num, Lib.hid (by rw [List.length_set]; exact hzs.out), Z9⟩
          case measure => simp [intOf]; omega
        · have hkn : k = ny := by omega
          subst hkn
          obtain ⟨wo, rfl⟩ : ∃ wo : World, wo = wr := ⟨_, rfl⟩
          obtain ⟨hw0, hu0, _, h50, h60⟩ := hz.out
          have BW := Lib.hid hw0
          have U0 := Lib.hid hu0
          have X5 := Lib.hid h50
          have X6 := Lib.hid h60
          obtain ⟨ny, rfl⟩ : ∃ ny : Nat, ny = k := ⟨_, rfl⟩
          clear hw0 hu0 h50 h60 hz hk hlt hzs
          gi_wp2_with fail
          have LS := Lib.hid (show LF wo wo.heap.size 0 [] (wo.alloc (Obj.cells #[.int .i64 0] 3)) from ⟨Boxed.new wo 3 _, Nat.le_refl _, (Below.refl _ _).alloc (Nat.le_refl _) _, List.nodup_nil, fun D hD => by simp at hD⟩)
          refine wpIn_loop_ghost (fun m a1 wr => ∃ (k : Nat) (Ds : List Nat) (Bk : Nat) (s16 s17 s77 s78 s79 s80 s81 s82 s83 s84 s85 s86 s87 s88 s89 s90 s91 s92 s93 s94 s95 s96 s97 s98 s99 s100 s101 s102 s103 s104 s105 s106 s107 s108 s109 s110 s111 s112 s113 s114 s115 s116 s117 s118 s119 s120 s121 s122 : Value), m = 3 - k ∧ k ≤ 3 ∧ a1 = { tmps := #[.slice A nx c, .slice A' ny c', .int .i64 stop, undef, undef, .pointer (some ⟨w.heap.size, 0, none⟩), .pointer (some ⟨w.heap.size + 1, 0, none⟩), .slice (some ⟨ga, 0, none⟩) nx ca, .slice (some ⟨gb, 0, none⟩) ny cb, .func (.func gf) #[] lb, .int .i64 er, .pointer (some ⟨w5.heap.size, 0, none⟩), .int .i64 er, .int .i64 (nx : Int), .int .i64 (ny : Int), .pointer (some ⟨Bk, 0, none⟩), s16, s17, .bool true, .bool false, .slice (some ⟨w1.heap.size, 0, none⟩) 0 0, .slice A nx c, .slice (some ⟨ga, 0, none⟩) nx ca, .slice (some ⟨w2.heap.size, 0, none⟩) 0 0, .slice A' ny c', .slice (some ⟨gb, 0, none⟩) ny cb, .tuple #[.func (.func gf) #[] lb, .int .i64 er], .slice (some ⟨ga, 0, none⟩) nx ca, .slice (some ⟨gb, 0, none⟩) ny cb, .tuple #[.func (.func gf) #[] lb, .int .i64 er], .func (.func gf) #[] lb, .int .i64 er, .tuple #[.slice AW nz cW, .int .i64 er], .slice A nx c, .slice A' ny c', .tuple #[.slice AW nz cW, .int .i64 er], .slice AW nz cW, .int .i64 er, .func (.func gf) #[] lb, .bool false, .bool false, .int .i64 er, .int .i64 er, .bool false, .bool false, .bool false, .slice (some ⟨ga, 0, none⟩) nx ca, .slice A nx c, .bool true, .bool false, .bool false, .bool false, .slice (some ⟨gb, 0, none⟩) ny cb, .slice A' ny c', .bool true, .bool false, .bool false, .int .i64 (nx : Int), .slice (some ⟨ga, 0, none⟩) nx ca, .int .i64 (nx : Int), .bool false, u61, u62, u63, u64, u65, u66, .int .i64 (ny : Int), .slice (some ⟨gb, 0, none⟩) ny cb, .int .i64 (ny : Int), .bool false, u71, u72, u73, u74, u75, u76, s77, s78, s79, s80, s81, s82, s83, s84, s85, s86, s87, s88, s89, s90, s91, s92, s93, s94, s95, s96, s97, s98, s99, s100, s101, s102, s103, s104, s105, s106, s107, s108, s109, s110, s111, s112, s113, s114, s115, s116, s117, s118, s119, s120, s121, s122], defers := Ds.map mk } ∧ Hid (LF wo Bk k Ds wr)) 3 ?start ?round
          case start => exact ⟨0, [], wo.heap.size, _, _, _, _, _, _, _, _, _, _, _, _, _, _, _, _, _, _, _, _, _, _, _, _, _, _, _, _, _, _, _, _, _, _, _, _, _, _, _, _, _, _, _, _, _, _, _, _, rfl, by omega, rfl, LS⟩
          case round =>
            clear LS
            rintro m a1 wr ⟨k, Ds, Bk, s16, s17, s77, s78, s79, s80, s81, s82, s83, s84, s85, s86, s87, s88, s89, s90, s91, s92, s93, s94, s95, s96, s97, s98, s99, s100, s101, s102, s103, s104, s105, s106, s107, s108, s109, s110, s111, s112, s113, s114, s115, s116, s117, s118, s119, s120, s121, s122, rfl, hk, rfl, hlf⟩ K hKK
            have HKK := Lib.hid hKK
            clear hKK
            have bk := hlf.out.1.cell
            by_cases hk3 : k < 3
            · have hk3i : (k : Int) < 3 := by omega
              gi_wp2_with fail
              obtain ⟨W0, hW0⟩ : ∃ W0, wr.alloc (Obj.cells #[.int .i64 0] 3) = W0 := ⟨_, rfl⟩
              have hB0 : Below wr.heap.size wr W0 := by rw [← hW0]; exact (Below.refl _ _).alloc (Nat.le_refl _) _
              have hsz : W0.heap.size = wr.heap.size + 1 := by rw [← hW0]; simp
              have bi : Boxed W0 wr.heap.size 3 (.int .i64 0) := by rw [← hW0]; exact Boxed.new wr 3 _
              rw [hW0]
              clear hW0
              have UW := Lib.hid (U0.out.trans (Upper.of_below hlf.out.2.2.1))
              have HOI : OwnFrom W0.heap.size (fun (pre : List Ch) W => Boxed W wr.heap.size 3 (.int .i64 (pre.length : Int)) ∧ Below wr.heap.size wr W) := OwnFrom.and (Own.from (boxed_own _ _ (fun pre : List Ch => Value.int .i64 (pre.length : Int))) _) (ownFrom_below (Nat.le_refl _) (by omega))
              refine wpIn_rangeFunc_ownH rfl (by omega) (gf := gf) (lb := lb) rfl trivial SQ8.out.1 (SQ8.out.2 wr UW.out W0 hB0) belowK_t (belowK_b (by omega)) (Below.refl _ _) (fun _ => rfl)
                (fun pre W => (Boxed W wr.heap.size 3 (.int .i64 (pre.length : Int)) ∧ Below wr.heap.size wr W) ∧ (k = 1 → pre = [] ∨ (pre.length : Int) < stop))
                (fun c pre W => (c = .ret ∧ ¬ pre <+: Z) ∨ (c = .exit 6 ∧ (k = 1 ∧ ((pre.length : Int) = stop ∨ pre.length = 1)) ∧ (Boxed W wr.heap.size 3 (.int .i64 (pre.length : Int)) ∧ Below wr.heap.size wr W)))
                (OwnFrom.and HOI (ownFrom_pure _ _))
                (fun c s X Y row hs hg hr => (by rcases hs with hs | ⟨h1, h2, h3⟩; exact .inl hs; exact .inr ⟨h1, h2, HOI s X Y row h3 hg hr⟩))
                ⟨⟨by simpa using bi, hB0⟩, fun _ => .inl rfl⟩
                (fun x a2 W => ∃ Bx, wr.heap.size < Bx ∧ W.heap[Bx]? = some (.cells #[.int .i64 x.k, .int .u32 x.o.p.a, .int .i64 x.o.p.l, .int .i64 x.o.m, .int .u64 x.o.o0, .int .u64 x.o.o1, .int .u64 x.o.h0, .int .u64 x.o.h1, .int .u32 x.n.p.a, .int .i64 x.n.p.l, .int .i64 x.n.m, .int .u64 x.n.o0, .int .u64 x.n.o1, .int .u64 x.n.h0, .int .u64 x.n.h1] 42 (0, 0)) ∧ a2 = { tmps := #[.slice A nx c, .slice A' ny c', .int .i64 stop, undef, undef, .pointer (some ⟨w.heap.size, 0, none⟩), .pointer (some ⟨w.heap.size + 1, 0, none⟩), .slice (some ⟨ga, 0, none⟩) nx ca, .slice (some ⟨gb, 0, none⟩) ny cb, .func (.func gf) #[] lb, .int .i64 er, .pointer (some ⟨w5.heap.size, 0, none⟩), .int .i64 er, .int .i64 (nx : Int), .int .i64 (ny : Int), .pointer (some ⟨Bk, 0, none⟩), .pointer (some ⟨wr.heap.size, 0, none⟩), .pointer (some ⟨Bx, 0, none⟩), .bool true, .bool false, .slice (some ⟨w1.heap.size, 0, none⟩) 0 0, .slice A nx c, .slice (some ⟨ga, 0, none⟩) nx ca, .slice (some ⟨w2.heap.size, 0, none⟩) 0 0, .slice A' ny c', .slice (some ⟨gb, 0, none⟩) ny cb, .tuple #[.func (.func gf) #[] lb, .int .i64 er], .slice (some ⟨ga, 0, none⟩) nx ca, .slice (some ⟨gb, 0, none⟩) ny cb, .tuple #[.func (.func gf) #[] lb, .int .i64 er], .func (.func gf) #[] lb, .int .i64 er, .tuple #[.slice AW nz cW, .int .i64 er], .slice A nx c, .slice A' ny c', .tuple #[.slice AW nz cW, .int .i64 er], .slice AW nz cW, .int .i64 er, .func (.func gf) #[] lb, .bool false, .bool false, .int .i64 er, .int .i64 er, .bool false, .bool false, .bool false, .slice (some ⟨ga, 0, none⟩) nx ca, .slice A nx c, .bool true, .bool false, .bool false, .bool false, .slice (some ⟨gb, 0, none⟩) ny cb, .slice A' ny c', .bool true, .bool false, .bool false, .int .i64 (nx : Int), .slice (some ⟨ga, 0, none⟩) nx ca, .int .i64 (nx : Int), .bool false, u61, u62, u63, u64, u65, u66, .int .i64 (ny : Int), .slice (some ⟨gb, 0, none⟩) ny cb, .int .i64 (ny : Int), .bool false, u71, u72, u73, u74, u75, u76, .int .i64 (k : Int), .bool true, s79, s80, .func (.func gf) #[] lb, .agg #[.int .i64 x.k, .int .u32 x.o.p.a, .int .i64 x.o.p.l, .int .i64 x.o.m, .int .u64 x.o.o0, .int .u64 x.o.o1, .int .u64 x.o.h0, .int .u64 x.o.h1, .int .u32 x.n.p.a, .int .i64 x.n.p.l, .int .i64 x.n.m, .int .u64 x.n.o0, .int .u64 x.n.o1, .int .u64 x.n.h0, .int .u64 x.n.h1], s83, s84, s85, s86, s87, s88, s89, s90, s91, s92, s93, s94, s95, s96, s97, s98, s99, s100, s101, s102, s103, s104, s105, s106, s107, s108, s109, s110, s111, s112, s113, s114, s115, s116, s117, s118, s119, s120, s121, s122], defers := [] })
                (fun x a2 _ X Y row hs hg hr => by
                  obtain ⟨Bx, h1, h2, h3⟩ := hs
                  refine ⟨Bx, h1, (hg.block Bx (Array.getElem?_eq_some_iff.1 h2).1 (fun e => ?_)).trans h2, h3⟩
                  obtain ⟨_, o, ho, hc⟩ := hr Bx e.symm
                  rw [h2] at ho; cases ho; cases hc)
                ?assign ?body ?done ?stop
              case assign =>
                rintro l pre x W K2 ⟨⟨hbn, hB⟩, hpre⟩ hK
                have HPRE := Lib.hid hpre
                clear hpre
                gi_wp2_with fail
                exact hK _ _ ((KeepsOthers.alloc _ _).from _) ((Below.refl _ W).alloc hB.size _) ⟨⟨hbn.alloc _, hB.alloc hB.size _⟩, HPRE.out⟩ ⟨W.heap.size, hbn.lt, heap_alloc_new W _, rfl⟩
              case body =>
                rintro l pre x a2 W hl ⟨r, hr⟩ ⟨⟨hbn, hB⟩, hpre⟩ ⟨Bx, hBx, bX, rfl⟩ hlt
                obtain ⟨z, hz⟩ : ∃ z, Z[pre.length]? = some z := ⟨_, List.getElem?_eq_getElem hlt⟩
                obtain ⟨A9, c9, he, hrd, _⟩ := (SW8.out.upper UW.out SZ.out.1).below hB
                cases he
                obtain ⟨bW, oW, rfl, hat⟩ := hrd _ z hz
                have HPRE := Lib.hid hpre
                have HZ := Lib.hid hz
                have HJ := Lib.hid (show pre.length < nz by rw [HNZ.out]; exact hlt)
                obtain ⟨j, hj⟩ : ∃ j, j = pre.length := ⟨_, rfl⟩
                have HJJ := Lib.hid hj
                rw [← hj] at hbn hat HJ
                have hjn : (j : Int) < (nz : Int) := by have := HJ.out; omega
                have hjN : j < nz := HJ.out
                have hj0 : (0 : Int) ≤ (j : Int) := by omega
                have hjb : (j : Int) ≤ 1125899906842624 := by have := HJ.out; omega
                have hwj : IntKind.i64.wrap (j : Int) = j := wrapk (by have := HJ.out; omega)
                have tg : decide ((nz : Int) ≤ (j : Int)) = false := by simp; omega
                have cT := (boxed_below (show Boxed wr w5.heap.size 29 (.slice (some ⟨bW, oW, none⟩) nz cW) from UW.out.heap (Nat.le_trans SZ.out.1 SZ.out.2.1) XT8.out) hB).cell
                have c5 := (boxed_below (boxed_below X5.out hlf.out.2.2.1) hB).cell
                have ck := (boxed_below hlf.out.1 hB).cell
                have b6 := (boxed_below (boxed_below X6.out hlf.out.2.2.1) hB).cell
                have HF6 := Lib.hid (boxed_below (boxed_below X6.out hlf.out.2.2.1) hB)
                have bn := hbn.cell
                have HB := Lib.hid hB
                have HBN := Lib.hid hbn
                have hax : AtC W Bx 0 x := cells15 bX
                have HQX : Hid (∀ w2, Below W.heap.size W w2 → AtC w2 Bx 0 x) := Lib.hid (fun w2 h => hax.below h)
                have HQZ : Hid (∀ w2, Below W.heap.size W w2 → AtC w2 bW (oW + j * 15) z) := Lib.hid (fun w2 h => hat.below h)
                have HCM : Hid (∀ w2, Below W.heap.size W w2 → w2.cell? ⟨wr.heap.size, 0, none⟩ = some (.int .i64 (j : Int)) ∧ w2.frozen? ⟨wr.heap.size, 0, none⟩ = false ∧ w2.cell? ⟨w5.heap.size, 0, none⟩ = some (.slice (some ⟨bW, oW, none⟩) nz cW) ∧ w2.cell? ⟨Bk, 0, none⟩ = some (.int .i64 (k : Int)) ∧ w2.cell? ⟨w.heap.size, 0, none⟩ = some (.int .i64 stop) ∧ w2.cell? ⟨w.heap.size + 1, 0, none⟩ = some (.bool false) ∧ w2.frozen? ⟨w.heap.size + 1, 0, none⟩ = false) := Lib.hid (fun w2 h => ⟨bcell h bn, (boxed_below HBN.out h).frozen, bcell h cT, bcell h ck, bcell h c5, bcell h b6, (boxed_below HF6.out h).frozen⟩)
                have hnb : wr.heap.size ≠ Bk := by have := hlf.out.1.lt; omega
                have hn5 : wr.heap.size ≠ w.heap.size := by have := X5.out.lt; have := hlf.out.2.2.1.size; omega
                have hnb2 := hnb.symm
                have hn52 := hn5.symm
                clear hl hr r hlt hbn hB bX hpre hz hrd hat cT c5 ck b6 bn bk hj hax hnil
                by_cases hxz : x = z
                · have td : decide (x = z) = true := decide_eq_true hxz
                  clear hxz
                  by_cases hk1 : k = 1
                  · have te : ((k : Int) == 1) = true := by simp; omega
                    by_cases hst : stop ≤ (j : Int) + 1
                    · have HBR : Hid ((((pre ++ [x]).length : Nat) : Int) = stop ∨ (pre ++ [x]).length = 1) := Lib.hid (by
                        rcases HPRE.out hk1 with h0 | h0
                        · right; rw [h0]; rfl
                        · left; rw [List.length_append]; simp only [List.length_singleton]; have := HJJ.out; omega)
                      have HK1 := Lib.hid hk1
                      have ts : decide (stop ≤ (j : Int) + 1) = true := decide_eq_true hst
                      clear hk1
                      gi_wp2_with fail
                      refine Og.walkR_lit [[],[],[1],[0,2,1],[3,0,2,1],[4,3,0,2,1],[4,3,0,2,1],[4,3,0,2,1],[6,7,4,3,0,2,1],[8,4,6,7,3,0,2,1],[5,9,4,3,0,2,1,8,6,7],[4,10,3,0,2,1,5,9,8,6,7]] (fun w2 => Below W.heap.size W w2) (fun w1 w2 => Below w1.heap.size w1 w2) (by kernel_rfl) (by kernel_rfl) (by kernel_rfl) (bdrew) ?_
                      refine Og.step_pure (fun _ => Below.refl _ _) ?_; apply Exists.intro; refine And.intro ?_ ?_; focus (intro vs w2 hC hk; have hm := HCM.out w2 hC; revert hk; simp only [Og.KS, Og.K0, Og.Is, List.getD_cons_zero, List.getD_cons_succ, List.getD_nil, List.contains_cons, List.contains_nil, Nat.reduceAdd, Nat.reduceBEq, Bool.or_false, Bool.false_or, Bool.or_true, Bool.true_or, Bool.false_eq_true, false_implies, true_implies, true_and, and_true, forall_const]; intros; go_simp; rfl)
                      refine Og.step_pure (fun _ => Below.refl _ _) ?_; apply Exists.intro; refine And.intro ?_ ?_; focus (intro vs w2 hC hk; have hm := HCM.out w2 hC; revert hk; simp only [Og.KS, Og.K0, Og.Is, List.getD_cons_zero, List.getD_cons_succ, List.getD_nil, List.contains_cons, List.contains_nil, Nat.reduceAdd, Nat.reduceBEq, Bool.or_false, Bool.false_or, Bool.or_true, Bool.true_or, Bool.false_eq_true, false_implies, true_implies, true_and, and_true, forall_const]; intros; go_simp; rfl)
                      refine Og.step_pure (fun _ => Below.refl _ _) ?_; apply Exists.intro; refine And.intro ?_ ?_; focus (intro vs w2 hC hk; revert hk; simp only [Og.KS, Og.K0, Og.Is, List.getD_cons_zero, List.getD_cons_succ, List.getD_nil, List.contains_cons, List.contains_nil, Nat.reduceAdd, Nat.reduceBEq, Bool.or_false, Bool.false_or, Bool.or_true, Bool.true_or, Bool.false_eq_true, false_implies, true_implies, true_and, and_true, forall_const]; intros; go_simp; rfl)
                      refine Og.step_pure (fun _ => Below.refl _ _) ?_; apply Exists.intro; refine And.intro ?_ ?_; focus (intro vs w2 hC hk; revert hk; simp only [Og.KS, Og.K0, Og.Is, List.getD_cons_zero, List.getD_cons_succ, List.getD_nil, List.contains_cons, List.contains_nil, Nat.reduceAdd, Nat.reduceBEq, Bool.or_false, Bool.false_or, Bool.or_true, Bool.true_or, Bool.false_eq_true, false_implies, true_implies, true_and, and_true, forall_const]; intros; go_simp; rfl)
                      refine Og.step_pure (fun _ => Below.refl _ _) ?_; apply Exists.intro; refine And.intro ?_ ?_; focus (intro vs w2 hC hk; revert hk; simp only [Og.KS, Og.K0, Og.Is, List.getD_cons_zero, List.getD_cons_succ, List.getD_nil, List.contains_cons, List.contains_nil, Nat.reduceAdd, Nat.reduceBEq, Bool.or_false, Bool.false_or, Bool.or_true, Bool.true_or, Bool.false_eq_true, false_implies, true_implies, true_and, and_true, forall_const]; intros; go_simp; rfl)
                      refine Og.step_pureB (fun _ => Below.refl _ _) ⟨vC x, ?_, ?_⟩; focus (intro vs w2 hC hk; simp only [Og.KS, Og.K0, Og.Is, List.getD_cons_zero, List.getD_cons_succ, List.getD_nil, List.contains_cons, List.contains_nil, Nat.reduceAdd, Nat.reduceBEq, Bool.or_false, Bool.false_or, Bool.or_true, Bool.true_or, Bool.false_eq_true, false_implies, true_implies, true_and, and_true, forall_const] at hk; refine optB_loadC ?_ rfl ?_ (HQX.out w2 hC) ⟨rfl, rfl⟩ <;> go_simp)
                      refine Og.step_pure (fun _ => Below.refl _ _) ?_; apply Exists.intro; refine And.intro ?_ ?_; focus (intro vs w2 hC hk; have hm := HCM.out w2 hC; revert hk; simp only [Og.KS, Og.K0, Og.Is, List.getD_cons_zero, List.getD_cons_succ, List.getD_nil, List.contains_cons, List.contains_nil, Nat.reduceAdd, Nat.reduceBEq, Bool.or_false, Bool.false_or, Bool.or_true, Bool.true_or, Bool.false_eq_true, false_implies, true_implies, true_and, and_true, forall_const]; intros; go_simp; rfl)
                      refine Og.step_pure (fun _ => Below.refl _ _) ?_; apply Exists.intro; refine And.intro ?_ ?_; focus (intro vs w2 hC hk; have hm := HCM.out w2 hC; revert hk; simp only [Og.KS, Og.K0, Og.Is, List.getD_cons_zero, List.getD_cons_succ, List.getD_nil, List.contains_cons, List.contains_nil, Nat.reduceAdd, Nat.reduceBEq, Bool.or_false, Bool.false_or, Bool.or_true, Bool.true_or, Bool.false_eq_true, false_implies, true_implies, true_and, and_true, forall_const]; intros; go_simp; rfl)
                      refine Og.step_pure (fun _ => Below.refl _ _) ?_; apply Exists.intro; refine And.intro ?_ ?_; focus (intro vs w2 hC hk; revert hk; simp only [Og.KS, Og.K0, Og.Is, List.getD_cons_zero, List.getD_cons_succ, List.getD_nil, List.contains_cons, List.contains_nil, Nat.reduceAdd, Nat.reduceBEq, Bool.or_false, Bool.false_or, Bool.or_true, Bool.true_or, Bool.false_eq_true, false_implies, true_implies, true_and, and_true, forall_const]; intros; go_simp; rfl)
                      refine Og.step_pureB (fun _ => Below.refl _ _) ⟨vC z, ?_, ?_⟩; focus (intro vs w2 hC hk; simp only [Og.KS, Og.K0, Og.Is, List.getD_cons_zero, List.getD_cons_succ, List.getD_nil, List.contains_cons, List.contains_nil, Nat.reduceAdd, Nat.reduceBEq, Bool.or_false, Bool.false_or, Bool.or_true, Bool.true_or, Bool.false_eq_true, false_implies, true_implies, true_and, and_true, forall_const] at hk; refine optB_loadC ?_ rfl ?_ (HQZ.out w2 hC) ⟨rfl, rfl⟩ <;> go_simp)
                      refine Og.step_pureB (fun _ => Below.refl _ _) ⟨.bool (!decide (x = z)), ?_, ?_⟩; focus (intro vs w2 hC hk; simp only [Og.KS, Og.K0, Og.Is, List.getD_cons_zero, List.getD_cons_succ, List.getD_nil, List.contains_cons, List.contains_nil, Nat.reduceAdd, Nat.reduceBEq, Bool.or_false, Bool.false_or, Bool.or_true, Bool.true_or, Bool.false_eq_true, false_implies, true_implies, true_and, and_true, forall_const] at hk; refine optB_neqC (x := x) (z := z) ?_ rfl ?_ ?_ ⟨rfl, rfl⟩ <;> go_simp)
                      refine Og.step_pure (fun _ => Below.refl _ _) ?_; apply Exists.intro; refine And.intro ?_ ?_; focus (intro vs w2 hC hk; revert hk; simp only [Og.KS, Og.K0, Og.Is, List.getD_cons_zero, List.getD_cons_succ, List.getD_nil, List.contains_cons, List.contains_nil, Nat.reduceAdd, Nat.reduceBEq, Bool.or_false, Bool.false_or, Bool.or_true, Bool.true_or, Bool.false_eq_true, false_implies, true_implies, true_and, and_true, forall_const]; intros; go_simp; rfl)
                      intro vs w2 hC hk
                      have hm := HCM.out w2 hC
                      simp only [Og.KS, Og.K0, Og.Is, List.getD_cons_zero, List.getD_cons_succ, List.getD_nil, List.contains_cons, List.contains_nil, Nat.reduceAdd, Nat.reduceBEq, Bool.or_false, Bool.false_or, Bool.or_true, Bool.true_or, Bool.false_eq_true, false_implies, true_implies, true_and, and_true, forall_const] at hk
                      simp only [hk, Act.put, List.setIfInBounds_toArray, List.set_cons_zero, List.set_cons_succ]
                      clear hk
                      have HD := Lib.hid hC
                      clear hC
                      gi_wp2_with fail
                      exact ⟨(KeepsFrom.of_grownBy (below_grown HD.out) (fun j e => by cases e)).trans ((KeepsOthers.setCell _ _ _).from _), .inr ⟨rfl, ⟨HK1.out, HBR.out⟩, (show Boxed (w2.setCell ⟨wr.heap.size, 0, none⟩ (.int .i64 ((j : Int) + 1))) wr.heap.size 3 (.int .i64 ((pre ++ [x]).length : Int)) by have := (boxed_below HBN.out HD.out).set (.int .i64 ((j : Int) + 1)); rw [List.length_append, ← HJJ.out]; exact this), ((bthen' HB.out HB.out.size HD.out).setCell (p := ⟨wr.heap.size, 0, none⟩) (Nat.le_refl _) _)⟩⟩
                    · have HPR : Hid ((((pre ++ [x]).length : Nat) : Int) < stop) := Lib.hid (by rw [List.length_append]; simp only [List.length_singleton]; have := HJJ.out; omega)
                      have ts : decide (stop ≤ (j : Int) + 1) = false := decide_eq_false hst
                      clear hk1
                      gi_wp2_with fail
                      refine Og.walkR_lit [[],[],[1],[0,2,1],[3,0,2,1],[4,3,0,2,1],[4,3,0,2,1],[4,3,0,2,1],[6,7,4,3,0,2,1],[8,4,6,7,3,0,2,1],[5,9,4,3,0,2,1,8,6,7],[4,10,3,0,2,1,5,9,8,6,7]] (fun w2 => Below W.heap.size W w2) (fun w1 w2 => Below w1.heap.size w1 w2) (by kernel_rfl) (by kernel_rfl) (by kernel_rfl) (bdrew) ?_
                      refine Og.step_pure (fun _ => Below.refl _ _) ?_; apply Exists.intro; refine And.intro ?_ ?_; focus (intro vs w2 hC hk; have hm := HCM.out w2 hC; revert hk; simp only [Og.KS, Og.K0, Og.Is, List.getD_cons_zero, List.getD_cons_succ, List.getD_nil, List.contains_cons, List.contains_nil, Nat.reduceAdd, Nat.reduceBEq, Bool.or_false, Bool.false_or, Bool.or_true, Bool.true_or, Bool.false_eq_true, false_implies, true_implies, true_and, and_true, forall_const]; intros; go_simp; rfl)
                      refine Og.step_pure (fun _ => Below.refl _ _) ?_; apply Exists.intro; refine And.intro ?_ ?_; focus (intro vs w2 hC hk; have hm := HCM.out w2 hC; revert hk; simp only [Og.KS, Og.K0, Og.Is, List.getD_cons_zero, List.getD_cons_succ, List.getD_nil, List.contains_cons, List.contains_nil, Nat.reduceAdd, Nat.reduceBEq, Bool.or_false, Bool.false_or, Bool.or_true, Bool.true_or, Bool.false_eq_true, false_implies, true_implies, true_and, and_true, forall_const]; intros; go_simp; rfl)
                      refine Og.step_pure (fun _ => Below.refl _ _) ?_; apply Exists.intro; refine And.intro ?_ ?_; focus (intro vs w2 hC hk; revert hk; simp only [Og.KS, Og.K0, Og.Is, List.getD_cons_zero, List.getD_cons_succ, List.getD_nil, List.contains_cons, List.contains_nil, Nat.reduceAdd, Nat.reduceBEq, Bool.or_false, Bool.false_or, Bool.or_true, Bool.true_or, Bool.false_eq_true, false_implies, true_implies, true_and, and_true, forall_const]; intros; go_simp; rfl)
                      refine Og.step_pure (fun _ => Below.refl _ _) ?_; apply Exists.intro; refine And.intro ?_ ?_; focus (intro vs w2 hC hk; revert hk; simp only [Og.KS, Og.K0, Og.Is, List.getD_cons_zero, List.getD_cons_succ, List.getD_nil, List.contains_cons, List.contains_nil, Nat.reduceAdd, Nat.reduceBEq, Bool.or_false, Bool.false_or, Bool.or_true, Bool.true_or, Bool.false_eq_true, false_implies, true_implies, true_and, and_true, forall_const]; intros; go_simp; rfl)
                      refine Og.step_pure (fun _ => Below.refl _ _) ?_; apply Exists.intro; refine And.intro ?_ ?_; focus (intro vs w2 hC hk; revert hk; simp only [Og.KS, Og.K0, Og.Is, List.getD_cons_zero, List.getD_cons_succ, List.getD_nil, List.contains_cons, List.contains_nil, Nat.reduceAdd, Nat.reduceBEq, Bool.or_false, Bool.false_or, Bool.or_true, Bool.true_or, Bool.false_eq_true, false_implies, true_implies, true_and, and_true, forall_const]; intros; go_simp; rfl)
                      refine Og.step_pureB (fun _ => Below.refl _ _) ⟨vC x, ?_, ?_⟩; focus (intro vs w2 hC hk; simp only [Og.KS, Og.K0, Og.Is, List.getD_cons_zero, List.getD_cons_succ, List.getD_nil, List.contains_cons, List.contains_nil, Nat.reduceAdd, Nat.reduceBEq, Bool.or_false, Bool.false_or, Bool.or_true, Bool.true_or, Bool.false_eq_true, false_implies, true_implies, true_and, and_true, forall_const] at hk; refine optB_loadC ?_ rfl ?_ (HQX.out w2 hC) ⟨rfl, rfl⟩ <;> go_simp)
                      refine Og.step_pure (fun _ => Below.refl _ _) ?_; apply Exists.intro; refine And.intro ?_ ?_; focus (intro vs w2 hC hk; have hm := HCM.out w2 hC; revert hk; simp only [Og.KS, Og.K0, Og.Is, List.getD_cons_zero, List.getD_cons_succ, List.getD_nil, List.contains_cons, List.contains_nil, Nat.reduceAdd, Nat.reduceBEq, Bool.or_false, Bool.false_or, Bool.or_true, Bool.true_or, Bool.false_eq_true, false_implies, true_implies, true_and, and_true, forall_const]; intros; go_simp; rfl)
                      refine Og.step_pure (fun _ => Below.refl _ _) ?_; apply Exists.intro; refine And.intro ?_ ?_; focus (intro vs w2 hC hk; have hm := HCM.out w2 hC; revert hk; simp only [Og.KS, Og.K0, Og.Is, List.getD_cons_zero, List.getD_cons_succ, List.getD_nil, List.contains_cons, List.contains_nil, Nat.reduceAdd, Nat.reduceBEq, Bool.or_false, Bool.false_or, Bool.or_true, Bool.true_or, Bool.false_eq_true, false_implies, true_implies, true_and, and_true, forall_const]; intros; go_simp; rfl)
                      refine Og.step_pure (fun _ => Below.refl _ _) ?_; apply Exists.intro; refine And.intro ?_ ?_; focus (intro vs w2 hC hk; revert hk; simp only [Og.KS, Og.K0, Og.Is, List.getD_cons_zero, List.getD_cons_succ, List.getD_nil, List.contains_cons, List.contains_nil, Nat.reduceAdd, Nat.reduceBEq, Bool.or_false, Bool.false_or, Bool.or_true, Bool.true_or, Bool.false_eq_true, false_implies, true_implies, true_and, and_true, forall_const]; intros; go_simp; rfl)
                      refine Og.step_pureB (fun _ => Below.refl _ _) ⟨vC z, ?_, ?_⟩; focus (intro vs w2 hC hk; simp only [Og.KS, Og.K0, Og.Is, List.getD_cons_zero, List.getD_cons_succ, List.getD_nil, List.contains_cons, List.contains_nil, Nat.reduceAdd, Nat.reduceBEq, Bool.or_false, Bool.false_or, Bool.or_true, Bool.true_or, Bool.false_eq_true, false_implies, true_implies, true_and, and_true, forall_const] at hk; refine optB_loadC ?_ rfl ?_ (HQZ.out w2 hC) ⟨rfl, rfl⟩ <;> go_simp)
                      refine Og.step_pureB (fun _ => Below.refl _ _) ⟨.bool (!decide (x = z)), ?_, ?_⟩; focus (intro vs w2 hC hk; simp only [Og.KS, Og.K0, Og.Is, List.getD_cons_zero, List.getD_cons_succ, List.getD_nil, List.contains_cons, List.contains_nil, Nat.reduceAdd, Nat.reduceBEq, Bool.or_false, Bool.false_or, Bool.or_true, Bool.true_or, Bool.false_eq_true, false_implies, true_implies, true_and, and_true, forall_const] at hk; refine optB_neqC (x := x) (z := z) ?_ rfl ?_ ?_ ⟨rfl, rfl⟩ <;> go_simp)
                      refine Og.step_pure (fun _ => Below.refl _ _) ?_; apply Exists.intro; refine And.intro ?_ ?_; focus (intro vs w2 hC hk; revert hk; simp only [Og.KS, Og.K0, Og.Is, List.getD_cons_zero, List.getD_cons_succ, List.getD_nil, List.contains_cons, List.contains_nil, Nat.reduceAdd, Nat.reduceBEq, Bool.or_false, Bool.false_or, Bool.or_true, Bool.true_or, Bool.false_eq_true, false_implies, true_implies, true_and, and_true, forall_const]; intros; go_simp; rfl)
                      intro vs w2 hC hk
                      have hm := HCM.out w2 hC
                      simp only [Og.KS, Og.K0, Og.Is, List.getD_cons_zero, List.getD_cons_succ, List.getD_nil, List.contains_cons, List.contains_nil, Nat.reduceAdd, Nat.reduceBEq, Bool.or_false, Bool.false_or, Bool.or_true, Bool.true_or, Bool.false_eq_true, false_implies, true_implies, true_and, and_true, forall_const] at hk
                      simp only [hk, Act.put, List.setIfInBounds_toArray, List.set_cons_zero, List.set_cons_succ]
                      clear hk
                      have HD := Lib.hid hC
                      clear hC
                      gi_wp2_with fail
                      exact ⟨(KeepsFrom.of_grownBy (below_grown HD.out) (fun j e => by cases e)).trans ((KeepsOthers.setCell _ _ _).from _), (HD.out.mono HB.out.size).trans ((Below.refl _ _).setCell (p := ⟨wr.heap.size, 0, none⟩) (Nat.le_refl _) _), ⟨(show Boxed (w2.setCell ⟨wr.heap.size, 0, none⟩ (.int .i64 ((j : Int) + 1))) wr.heap.size 3 (.int .i64 ((pre ++ [x]).length : Int)) by have := (boxed_below HBN.out HD.out).set (.int .i64 ((j : Int) + 1)); rw [List.length_append, ← HJJ.out]; exact this), ((bthen' HB.out HB.out.size HD.out).setCell (p := ⟨wr.heap.size, 0, none⟩) (Nat.le_refl _) _)⟩, fun _ => .inr HPR.out⟩
                  · have te : ((k : Int) == 1) = false := by simp; omega
                    have HK1 := Lib.hid hk1
                    clear hk1
                    gi_wp2_with fail
                    refine Og.walkR_lit [[],[],[1],[0,2,1],[3,0,2,1],[4,3,0,2,1],[4,3,0,2,1],[4,3,0,2,1],[6,7,4,3,0,2,1],[8,4,6,7,3,0,2,1],[5,9,4,3,0,2,1,8,6,7],[4,10,3,0,2,1,5,9,8,6,7]] (fun w2 => Below W.heap.size W w2) (fun w1 w2 => Below w1.heap.size w1 w2) (by kernel_rfl) (by kernel_rfl) (by kernel_rfl) (bdrew) ?_
                    refine Og.step_pure (fun _ => Below.refl _ _) ?_; apply Exists.intro; refine And.intro ?_ ?_; focus (intro vs w2 hC hk; have hm := HCM.out w2 hC; revert hk; simp only [Og.KS, Og.K0, Og.Is, List.getD_cons_zero, List.getD_cons_succ, List.getD_nil, List.contains_cons, List.contains_nil, Nat.reduceAdd, Nat.reduceBEq, Bool.or_false, Bool.false_or, Bool.or_true, Bool.true_or, Bool.false_eq_true, false_implies, true_implies, true_and, and_true, forall_const]; intros; go_simp; rfl)
                    refine Og.step_pure (fun _ => Below.refl _ _) ?_; apply Exists.intro; refine And.intro ?_ ?_; focus (intro vs w2 hC hk; have hm := HCM.out w2 hC; revert hk; simp only [Og.KS, Og.K0, Og.Is, List.getD_cons_zero, List.getD_cons_succ, List.getD_nil, List.contains_cons, List.contains_nil, Nat.reduceAdd, Nat.reduceBEq, Bool.or_false, Bool.false_or, Bool.or_true, Bool.true_or, Bool.false_eq_true, false_implies, true_implies, true_and, and_true, forall_const]; intros; go_simp; rfl)
                    refine Og.step_pure (fun _ => Below.refl _ _) ?_; apply Exists.intro; refine And.intro ?_ ?_; focus (intro vs w2 hC hk; revert hk; simp only [Og.KS, Og.K0, Og.Is, List.getD_cons_zero, List.getD_cons_succ, List.getD_nil, List.contains_cons, List.contains_nil, Nat.reduceAdd, Nat.reduceBEq, Bool.or_false, Bool.false_or, Bool.or_true, Bool.true_or, Bool.false_eq_true, false_implies, true_implies, true_and, and_true, forall_const]; intros; go_simp; rfl)
                    refine Og.step_pure (fun _ => Below.refl _ _) ?_; apply Exists.intro; refine And.intro ?_ ?_; focus (intro vs w2 hC hk; revert hk; simp only [Og.KS, Og.K0, Og.Is, List.getD_cons_zero, List.getD_cons_succ, List.getD_nil, List.contains_cons, List.contains_nil, Nat.reduceAdd, Nat.reduceBEq, Bool.or_false, Bool.false_or, Bool.or_true, Bool.true_or, Bool.false_eq_true, false_implies, true_implies, true_and, and_true, forall_const]; intros; go_simp; rfl)
                    refine Og.step_pure (fun _ => Below.refl _ _) ?_; apply Exists.intro; refine And.intro ?_ ?_; focus (intro vs w2 hC hk; revert hk; simp only [Og.KS, Og.K0, Og.Is, List.getD_cons_zero, List.getD_cons_succ, List.getD_nil, List.contains_cons, List.contains_nil, Nat.reduceAdd, Nat.reduceBEq, Bool.or_false, Bool.false_or, Bool.or_true, Bool.true_or, Bool.false_eq_true, false_implies, true_implies, true_and, and_true, forall_const]; intros; go_simp; rfl)
                    refine Og.step_pureB (fun _ => Below.refl _ _) ⟨vC x, ?_, ?_⟩; focus (intro vs w2 hC hk; simp only [Og.KS, Og.K0, Og.Is, List.getD_cons_zero, List.getD_cons_succ, List.getD_nil, List.contains_cons, List.contains_nil, Nat.reduceAdd, Nat.reduceBEq, Bool.or_false, Bool.false_or, Bool.or_true, Bool.true_or, Bool.false_eq_true, false_implies, true_implies, true_and, and_true, forall_const] at hk; refine optB_loadC ?_ rfl ?_ (HQX.out w2 hC) ⟨rfl, rfl⟩ <;> go_simp)
                    refine Og.step_pure (fun _ => Below.refl _ _) ?_; apply Exists.intro; refine And.intro ?_ ?_; focus (intro vs w2 hC hk; have hm := HCM.out w2 hC; revert hk; simp only [Og.KS, Og.K0, Og.Is, List.getD_cons_zero, List.getD_cons_succ, List.getD_nil, List.contains_cons, List.contains_nil, Nat.reduceAdd, Nat.reduceBEq, Bool.or_false, Bool.false_or, Bool.or_true, Bool.true_or, Bool.false_eq_true, false_implies, true_implies, true_and, and_true, forall_const]; intros; go_simp; rfl)
                    refine Og.step_pure (fun _ => Below.refl _ _) ?_; apply Exists.intro; refine And.intro ?_ ?_; focus (intro vs w2 hC hk; have hm := HCM.out w2 hC; revert hk; simp only [Og.KS, Og.K0, Og.Is, List.getD_cons_zero, List.getD_cons_succ, List.getD_nil, List.contains_cons, List.contains_nil, Nat.reduceAdd, Nat.reduceBEq, Bool.or_false, Bool.false_or, Bool.or_true, Bool.true_or, Bool.false_eq_true, false_implies, true_implies, true_and, and_true, forall_const]; intros; go_simp; rfl)
                    refine Og.step_pure (fun _ => Below.refl _ _) ?_; apply Exists.intro; refine And.intro ?_ ?_; focus (intro vs w2 hC hk; revert hk; simp only [Og.KS, Og.K0, Og.Is, List.getD_cons_zero, List.getD_cons_succ, List.getD_nil, List.contains_cons, List.contains_nil, Nat.reduceAdd, Nat.reduceBEq, Bool.or_false, Bool.false_or, Bool.or_true, Bool.true_or, Bool.false_eq_true, false_implies, true_implies, true_and, and_true, forall_const]; intros; go_simp; rfl)
                    refine Og.step_pureB (fun _ => Below.refl _ _) ⟨vC z, ?_, ?_⟩; focus (intro vs w2 hC hk; simp only [Og.KS, Og.K0, Og.Is, List.getD_cons_zero, List.getD_cons_succ, List.getD_nil, List.contains_cons, List.contains_nil, Nat.reduceAdd, Nat.reduceBEq, Bool.or_false, Bool.false_or, Bool.or_true, Bool.true_or, Bool.false_eq_true, false_implies, true_implies, true_and, and_true, forall_const] at hk; refine optB_loadC ?_ rfl ?_ (HQZ.out w2 hC) ⟨rfl, rfl⟩ <;> go_simp)
                    refine Og.step_pureB (fun _ => Below.refl _ _) ⟨.bool (!decide (x = z)), ?_, ?_⟩; focus (intro vs w2 hC hk; simp only [Og.KS, Og.K0, Og.Is, List.getD_cons_zero, List.getD_cons_succ, List.getD_nil, List.contains_cons, List.contains_nil, Nat.reduceAdd, Nat.reduceBEq, Bool.or_false, Bool.false_or, Bool.or_true, Bool.true_or, Bool.false_eq_true, false_implies, true_implies, true_and, and_true, forall_const] at hk; refine optB_neqC (x := x) (z := z) ?_ rfl ?_ ?_ ⟨rfl, rfl⟩ <;> go_simp)
                    refine Og.step_pure (fun _ => Below.refl _ _) ?_; apply Exists.intro; refine And.intro ?_ ?_; focus (intro vs w2 hC hk; revert hk; simp only [Og.KS, Og.K0, Og.Is, List.getD_cons_zero, List.getD_cons_succ, List.getD_nil, List.contains_cons, List.contains_nil, Nat.reduceAdd, Nat.reduceBEq, Bool.or_false, Bool.false_or, Bool.or_true, Bool.true_or, Bool.false_eq_true, false_implies, true_implies, true_and, and_true, forall_const]; intros; go_simp; rfl)
                    intro vs w2 hC hk
                    have hm := HCM.out w2 hC
                    simp only [Og.KS, Og.K0, Og.Is, List.getD_cons_zero, List.getD_cons_succ, List.getD_nil, List.contains_cons, List.contains_nil, Nat.reduceAdd, Nat.reduceBEq, Bool.or_false, Bool.false_or, Bool.or_true, Bool.true_or, Bool.false_eq_true, false_implies, true_implies, true_and, and_true, forall_const] at hk
                    simp only [hk, Act.put, List.setIfInBounds_toArray, List.set_cons_zero, List.set_cons_succ]
                    clear hk
                    have HD := Lib.hid hC
                    clear hC
                    gi_wp2_with fail
                    exact ⟨(KeepsFrom.of_grownBy (below_grown HD.out) (fun j e => by cases e)).trans ((KeepsOthers.setCell _ _ _).from _), (HD.out.mono HB.out.size).trans ((Below.refl _ _).setCell (p := ⟨wr.heap.size, 0, none⟩) (Nat.le_refl _) _), ⟨(show Boxed (w2.setCell ⟨wr.heap.size, 0, none⟩ (.int .i64 ((j : Int) + 1))) wr.heap.size 3 (.int .i64 ((pre ++ [x]).length : Int)) by have := (boxed_below HBN.out HD.out).set (.int .i64 ((j : Int) + 1)); rw [List.length_append, ← HJJ.out]; exact this), ((bthen' HB.out HB.out.size HD.out).setCell (p := ⟨wr.heap.size, 0, none⟩) (Nat.le_refl _) _)⟩, fun h => absurd h HK1.out⟩
                · have td : decide (x = z) = false := decide_eq_false hxz
                  have HNP : Hid (¬ (pre ++ [x]) <+: Z) := Lib.hid (fun h => by
                    obtain ⟨t, ht⟩ := h
                    have := HZ.out
                    rw [← ht, List.append_assoc, List.getElem?_append_right (Nat.le_refl _)] at this
                    simp at this
                    exact hxz this)
                  clear hxz
                  gi_wp2_with fail
                  refine Og.walkR_lit [[],[],[1],[0,2,1],[3,0,2,1],[4,3,0,2,1],[4,3,0,2,1],[4,3,0,2,1],[6,7,4,3,0,2,1],[8,4,6,7,3,0,2,1],[5,9,4,3,0,2,1,8,6,7],[4,10,3,0,2,1,5,9,8,6,7]] (fun w2 => Below W.heap.size W w2) (fun w1 w2 => Below w1.heap.size w1 w2) (by kernel_rfl) (by kernel_rfl) (by kernel_rfl) (bdrew) ?_
                  refine Og.step_pure (fun _ => Below.refl _ _) ?_; apply Exists.intro; refine And.intro ?_ ?_; focus (intro vs w2 hC hk; have hm := HCM.out w2 hC; revert hk; simp only [Og.KS, Og.K0, Og.Is, List.getD_cons_zero, List.getD_cons_succ, List.getD_nil, List.contains_cons, List.contains_nil, Nat.reduceAdd, Nat.reduceBEq, Bool.or_false, Bool.false_or, Bool.or_true, Bool.true_or, Bool.false_eq_true, false_implies, true_implies, true_and, and_true, forall_const]; intros; go_simp; rfl)
                  refine Og.step_pure (fun _ => Below.refl _ _) ?_; apply Exists.intro; refine And.intro ?_ ?_; focus (intro vs w2 hC hk; have hm := HCM.out w2 hC; revert hk; simp only [Og.KS, Og.K0, Og.Is, List.getD_cons_zero, List.getD_cons_succ, List.getD_nil, List.contains_cons, List.contains_nil, Nat.reduceAdd, Nat.reduceBEq, Bool.or_false, Bool.false_or, Bool.or_true, Bool.true_or, Bool.false_eq_true, false_implies, true_implies, true_and, and_true, forall_const]; intros; go_simp; rfl)
                  refine Og.step_pure (fun _ => Below.refl _ _) ?_; apply Exists.intro; refine And.intro ?_ ?_; focus (intro vs w2 hC hk; revert hk; simp only [Og.KS, Og.K0, Og.Is, List.getD_cons_zero, List.getD_cons_succ, List.getD_nil, List.contains_cons, List.contains_nil, Nat.reduceAdd, Nat.reduceBEq, Bool.or_false, Bool.false_or, Bool.or_true, Bool.true_or, Bool.false_eq_true, false_implies, true_implies, true_and, and_true, forall_const]; intros; go_simp; rfl)
                  refine Og.step_pure (fun _ => Below.refl _ _) ?_; apply Exists.intro; refine And.intro ?_ ?_; focus (intro vs w2 hC hk; revert hk; simp only [Og.KS, Og.K0, Og.Is, List.getD_cons_zero, List.getD_cons_succ, List.getD_nil, List.contains_cons, List.contains_nil, Nat.reduceAdd, Nat.reduceBEq, Bool.or_false, Bool.false_or, Bool.or_true, Bool.true_or, Bool.false_eq_true, false_implies, true_implies, true_and, and_true, forall_const]; intros; go_simp; rfl)
                  refine Og.step_pure (fun _ => Below.refl _ _) ?_; apply Exists.intro; refine And.intro ?_ ?_; focus (intro vs w2 hC hk; revert hk; simp only [Og.KS, Og.K0, Og.Is, List.getD_cons_zero, List.getD_cons_succ, List.getD_nil, List.contains_cons, List.contains_nil, Nat.reduceAdd, Nat.reduceBEq, Bool.or_false, Bool.false_or, Bool.or_true, Bool.true_or, Bool.false_eq_true, false_implies, true_implies, true_and, and_true, forall_const]; intros; go_simp; rfl)
                  refine Og.step_pureB (fun _ => Below.refl _ _) ⟨vC x, ?_, ?_⟩; focus (intro vs w2 hC hk; simp only [Og.KS, Og.K0, Og.Is, List.getD_cons_zero, List.getD_cons_succ, List.getD_nil, List.contains_cons, List.contains_nil, Nat.reduceAdd, Nat.reduceBEq, Bool.or_false, Bool.false_or, Bool.or_true, Bool.true_or, Bool.false_eq_true, false_implies, true_implies, true_and, and_true, forall_const] at hk; refine optB_loadC ?_ rfl ?_ (HQX.out w2 hC) ⟨rfl, rfl⟩ <;> go_simp)
                  refine Og.step_pure (fun _ => Below.refl _ _) ?_; apply Exists.intro; refine And.intro ?_ ?_; focus (intro vs w2 hC hk; have hm := HCM.out w2 hC; revert hk; simp only [Og.KS, Og.K0, Og.Is, List.getD_cons_zero, List.getD_cons_succ, List.getD_nil, List.contains_cons, List.contains_nil, Nat.reduceAdd, Nat.reduceBEq, Bool.or_false, Bool.false_or, Bool.or_true, Bool.true_or, Bool.false_eq_true, false_implies, true_implies, true_and, and_true, forall_const]; intros; go_simp; rfl)
                  refine Og.step_pure (fun _ => Below.refl _ _) ?_; apply Exists.intro; refine And.intro ?_ ?_; focus (intro vs w2 hC hk; have hm := HCM.out w2 hC; revert hk; simp only [Og.KS, Og.K0, Og.Is, List.getD_cons_zero, List.getD_cons_succ, List.getD_nil, List.contains_cons, List.contains_nil, Nat.reduceAdd, Nat.reduceBEq, Bool.or_false, Bool.false_or, Bool.or_true, Bool.true_or, Bool.false_eq_true, false_implies, true_implies, true_and, and_true, forall_const]; intros; go_simp; rfl)
                  refine Og.step_pure (fun _ => Below.refl _ _) ?_; apply Exists.intro; refine And.intro ?_ ?_; focus (intro vs w2 hC hk; revert hk; simp only [Og.KS, Og.K0, Og.Is, List.getD_cons_zero, List.getD_cons_succ, List.getD_nil, List.contains_cons, List.contains_nil, Nat.reduceAdd, Nat.reduceBEq, Bool.or_false, Bool.false_or, Bool.or_true, Bool.true_or, Bool.false_eq_true, false_implies, true_implies, true_and, and_true, forall_const]; intros; go_simp; rfl)
                  refine Og.step_pureB (fun _ => Below.refl _ _) ⟨vC z, ?_, ?_⟩; focus (intro vs w2 hC hk; simp only [Og.KS, Og.K0, Og.Is, List.getD_cons_zero, List.getD_cons_succ, List.getD_nil, List.contains_cons, List.contains_nil, Nat.reduceAdd, Nat.reduceBEq, Bool.or_false, Bool.false_or, Bool.or_true, Bool.true_or, Bool.false_eq_true, false_implies, true_implies, true_and, and_true, forall_const] at hk; refine optB_loadC ?_ rfl ?_ (HQZ.out w2 hC) ⟨rfl, rfl⟩ <;> go_simp)
                  refine Og.step_pureB (fun _ => Below.refl _ _) ⟨.bool (!decide (x = z)), ?_, ?_⟩; focus (intro vs w2 hC hk; simp only [Og.KS, Og.K0, Og.Is, List.getD_cons_zero, List.getD_cons_succ, List.getD_nil, List.contains_cons, List.contains_nil, Nat.reduceAdd, Nat.reduceBEq, Bool.or_false, Bool.false_or, Bool.or_true, Bool.true_or, Bool.false_eq_true, false_implies, true_implies, true_and, and_true, forall_const] at hk; refine optB_neqC (x := x) (z := z) ?_ rfl ?_ ?_ ⟨rfl, rfl⟩ <;> go_simp)
                  refine Og.step_pure (fun _ => Below.refl _ _) ?_; apply Exists.intro; refine And.intro ?_ ?_; focus (intro vs w2 hC hk; revert hk; simp only [Og.KS, Og.K0, Og.Is, List.getD_cons_zero, List.getD_cons_succ, List.getD_nil, List.contains_cons, List.contains_nil, Nat.reduceAdd, Nat.reduceBEq, Bool.or_false, Bool.false_or, Bool.or_true, Bool.true_or, Bool.false_eq_true, false_implies, true_implies, true_and, and_true, forall_const]; intros; go_simp; rfl)
                  intro vs w2 hC hk
                  have hm := HCM.out w2 hC
                  simp only [Og.KS, Og.K0, Og.Is, List.getD_cons_zero, List.getD_cons_succ, List.getD_nil, List.contains_cons, List.contains_nil, Nat.reduceAdd, Nat.reduceBEq, Bool.or_false, Bool.false_or, Bool.or_true, Bool.true_or, Bool.false_eq_true, false_implies, true_implies, true_and, and_true, forall_const] at hk
                  simp only [hk, Act.put, List.setIfInBounds_toArray, List.set_cons_zero, List.set_cons_succ]
                  clear hk
                  have HD := Lib.hid hC
                  clear hC
                  gi_wp2_with fail
                  exact ⟨(KeepsFrom.of_grownBy (below_grown HD.out) (fun j e => by cases e)).trans ((KeepsOthers.setCell _ _ _).from _), .inl ⟨rfl, HNP.out⟩⟩
              case done =>
                rintro D zs W hD hzs ⟨⟨hbn, hB⟩, hpre⟩ hDW
                clear hpre
                rw [hzs, ← HNZ.out] at hbn
                clear hzs
                have hDr : wr.heap.size ≤ D := by omega
                have cT := (boxed_below (show Boxed wr w5.heap.size 29 (.slice AW nz cW) from UW.out.heap (Nat.le_trans SZ.out.1 SZ.out.2.1) XT8.out) hB).cell
                have c5 := (boxed_below (boxed_below X5.out hlf.out.2.2.1) hB).cell
                have ck := (boxed_below hlf.out.1 hB).cell
                have bn := hbn.cell
                have hk0 : (0 : Int) ≤ (k : Int) := by omega
                have hwk : IntKind.i64.wrap (k : Int) = k := wrapk (by omega)
                have HB := Lib.hid hB
                have HD := Lib.hid (And.intro hDr hDW)
                clear hbn hB hD hDr hDW hsz bi hB0 HOI hnil bk
                have tn : ((nz : Int) != (nz : Int)) = false := by simp
                gi_wp2_with fail
                refine HKK.out (3-(k+1)) _ _ (by omega) ⟨k + 1, D :: Ds, W.heap.size, _, _, _, _, _, _, _, _, _, _, _, _, _, _, _, _, _, _, _, _, _, _, _, _, _, _, _, _, _, _, _, _, _, _, _, _, _, _, _, _, _, _, _, _, _, _, _, _, rfl, by omega, rfl, Lib.hid (hlf.out.next HB.out HD.out.1 HD.out.2 ?_ ?_)⟩
                · exact (Below.refl _ W).alloc (Nat.le_refl _) _
                · exact Boxed.new W 3 _
              case stop =>
                rintro D cc pre W hD hsp hix hDW
                rcases hix with ⟨rfl, hbad⟩ | ⟨rfl, ⟨hk1, hbr⟩, hbn, hB⟩
                · exact absurd hsp hbad
                · obtain ⟨l, hl⟩ : ∃ l, l = pre.length := ⟨_, rfl⟩
                  have hln : l ≤ nz := by have := hsp.length_le; have := HNZ.out; omega
                  rw [← hl] at hbn hbr
                  clear hl hsp
                  have hDr : wr.heap.size ≤ D := by omega
                  have cT := (boxed_below (show Boxed wr w5.heap.size 29 (.slice AW nz cW) from UW.out.heap (Nat.le_trans SZ.out.1 SZ.out.2.1) XT8.out) hB).cell
                  have c5 := (boxed_below (boxed_below X5.out hlf.out.2.2.1) hB).cell
                  have ck := (boxed_below hlf.out.1 hB).cell
                  have bn := hbn.cell
                  have hk0 : (0 : Int) ≤ (k : Int) := by omega
                  have hwk : IntKind.i64.wrap (k : Int) = k := wrapk (by omega)
                  have HB := Lib.hid hB
                  have HD := Lib.hid (And.intro hDr hDW)
                  clear hbn hB hD hDr hDW hsz bi hB0 HOI hnil bk
                  have te : ((k : Int) == 1) = true := by simp; omega
                  clear hk1
                  by_cases hlz : l = nz
                  · subst hlz
                    have tn : ((l : Int) != (l : Int)) = false := by simp
                    clear hbr hln
                    gi_wp2_with fail
                    refine HKK.out (3-(k+1)) _ _ (by omega) ⟨k + 1, D :: Ds, W.heap.size, _, _, _, _, _, _, _, _, _, _, _, _, _, _, _, _, _, _, _, _, _, _, _, _, _, _, _, _, _, _, _, _, _, _, _, _, _, _, _, _, _, _, _, _, _, _, _, _, rfl, by omega, rfl, Lib.hid (hlf.out.next HB.out HD.out.1 HD.out.2 ?_ ?_)⟩
                    · exact (Below.refl _ W).alloc (Nat.le_refl _) _
                    · exact Boxed.new W 3 _
                  · have tn : ((l : Int) != (nz : Int)) = true := by simp; omega
                    by_cases hls : (l : Int) = stop
                    · have ts : ((l : Int) == stop) = true := by simp; omega
                      clear hbr hln hlz hls
                      gi_wp2_with fail
                      refine HKK.out (3-(k+1)) _ _ (by omega) ⟨k + 1, D :: Ds, W.heap.size, _, _, _, _, _, _, _, _, _, _, _, _, _, _, _, _, _, _, _, _, _, _, _, _, _, _, _, _, _, _, _, _, _, _, _, _, _, _, _, _, _, _, _, _, _, _, _, _, rfl, by omega, rfl, Lib.hid (hlf.out.next HB.out HD.out.1 HD.out.2 ?_ ?_)⟩
                      · exact (Below.refl _ W).alloc (Nat.le_refl _) _
                      · exact Boxed.new W 3 _
                    · have ts : ((l : Int) == stop) = false := by simp; omega
                      have hl1 : l = 1 := by rcases hbr with h | h; exact absurd h hls; exact h
                      have t1 : ((l : Int) == 1) = true := by simp; omega
                      clear hbr hln hlz hls hl1
                      gi_wp2_with fail
                      refine HKK.out (3-(k+1)) _ _ (by omega) ⟨k + 1, D :: Ds, W.heap.size, _, _, _, _, _, _, _, _, _, _, _, _, _, _, _, _, _, _, _, _, _, _, _, _, _, _, _, _, _, _, _, _, _, _, _, _, _, _, _, _, _, _, _, _, _, _, _, _, rfl, by omega, rfl, Lib.hid (hlf.out.next HB.out HD.out.1 HD.out.2 ?_ ?_)⟩
                      · exact (Below.refl _ W).alloc (Nat.le_refl _) _
                      · exact Boxed.new W 3 _
            · have hke : k = 3 := by omega
              subst hke
              have b6 := (boxed_below X6.out hlf.out.2.2.1).cell
              have f6 := (boxed_below X6.out hlf.out.2.2.1).frozen
              have l6 := X6.out.lt
              have HB6 := Lib.hid b6
              gi_wp2_with fail
              refine leaves_marks wo.heap.size (fun w9 => w9.cell? ⟨w.heap.size + 1, 0, none⟩ = some (.bool true) ∧ Below w.heap.size w w9) (fun w9 D hBD hD hk9 => ⟨cell_kept hk9.1 (grownBy_putObj' w9 D (.deferred none)) (fun r e => (by cases e; exact ⟨_, hD, rfl⟩)), hk9.2.trans (belowK_b (w := w) (Nat.le_refl _) _ D _ _ (by have := BW.out.size; omega) hD rfl rfl)⟩) (fun w9 hk9 => ⟨.bool true, by have h1 := hk9.1; simp [results, Try.f3, go_sem, h1], rfl, hk9.2⟩) Ds _ hlf.out.2.2.2.1 (fun D hD => ⟨(hlf.out.2.2.2.2 D hD).1, ?_⟩) ⟨World.cell?_setCell_same' wr ⟨w.heap.size + 1, 0, none⟩ (.bool true) (by rw [HB6.out]; rfl), (bthen' BW.out BW.out.size hlf.out.2.2.1).setCell (p := ⟨w.heap.size + 1, 0, none⟩) (by simp) _⟩
              exact (heap_setCell_other wr ⟨w.heap.size + 1, 0, none⟩ D _ (by have := (hlf.out.2.2.2.2 D hD).1; simp; omega)).trans (hlf.out.2.2.2.2 D hD).2
theorem DeltaAlls_ok (xs ys : List Ro) (A A' : Option Addr) (c c' : Nat) (stop : Int) (w : World) (hr : RdR w A xs) (hr' : RdR w A' ys) (hA0 : A = none → c = 0) (hA0' : A' = none → c' = 0) (hl : xs.length ≤ 2513169434843) (hl' : ys.length ≤ 2513169434843) (hf : ∀ (i : Nat) r, xs[i]? = some r → FitR r) (hf' : ∀ (i : Nat) r, ys[i]? = some r → FitR r) :
    Calls Try.prog 3 #[.slice A xs.length c, .slice A' ys.length c', .int .i64 stop] w fun e w' => e = .returned (.bool true) ∧ Below w.heap.size w w' := by
  by_cases h : (sndT xs && sndT ys) = true
  · have hs : sndT xs = true ∧ sndT ys = true := by simpa using h
    refine DeltaAlls_core xs ys (mrgK xs ys) 0 A A' c c' stop w hr hr' hA0 hA0' hl hl' (by have := mrgK_len xs ys; omega) (fun w2 A2 A3 c2 c3 h2 h3 h4 h5 => ?_) (fun w2 hb => ?_)
    · refine (All_yes xs ys A2 A3 c2 c3 w2 h2 h3 h4 h5 hl hl' h).mono fun e w' hh => ?_
      obtain ⟨⟨B, B', he, ha, hb⟩, bel⟩ := hh
      exact ⟨⟨25, _, he, seqs_yes w2.heap.size B B' xs ys w' hl hl' ha hb⟩, bel⟩
    · exact rAll_yes xs ys A A' c c' w2 (hr.below hb) (hr'.below hb) hf hf' hs.1 hs.2
  · have h : (sndT xs && sndT ys) = false := by simpa using h
    refine DeltaAlls_core xs ys [] 1 A A' c c' stop w hr hr' hA0 hA0' hl hl' (by simp) (fun w2 A2 A3 c2 c3 h2 h3 h4 h5 => ?_) (fun w2 hb => ?_)
    · refine (All_no xs ys A2 A3 c2 c3 w2 h2 h3 hl hl' h).mono fun e w' hh => ?_
      exact ⟨⟨23, _, hh.1, seqs_no w2.heap.size w'⟩, hh.2⟩
    · refine (rAll_no xs ys A A' c c' w2 (hr.below hb) (hr'.below hb) hl hl' hf hf' h).mono fun e w' hh => ?_
      exact ⟨⟨_, hh.1, SlC_nil⟩, hh.2⟩

end Go.Proofs.Ytpnhkniegjfncaa
