/- The walk of Tree: what one node hands on to those behind it; conditions as stated. -/
import Derived.Test.YtjbglifmppilfaaDoorS8
import Derived.Laws.MakeOwn
namespace Go.Proofs.YtjbglifmppilfaaDoor
open Go.ChangeShapes Go.WideShapes Go.ChangeAt Go.RowKit
set_option linter.unusedVariables false
set_option linter.unusedSimpArgs false
attribute [local go_sem] Og.Opt Og.OpY

attribute [local go_sem] Og.Opt Og.OpY
theorem info3 : (Tryd.prog.info? 3).map (fun i => (i.zero, i.size, i.bytes)) = some (some (.int .i64 0), 1, 8) := by kernel_rfl
theorem info25 : (Tryd.prog.info? 35).map (fun i => (i.zero, i.size, i.bytes)) = some (some (.agg #[.int .u64 0, .int .u64 0]), 2, 16) := by kernel_rfl
def z128 : List Int := List.replicate 128 0
def z256 : List Value := List.replicate 256 (.int .u64 0)
theorem mk73 (w : World) : (Instr.makeSlice 22 (.int .i64 128) (.int .i64 128)).run Tryd.prog w = .ok (.slice (some ⟨w.heap.size, 0, none⟩) 128 128) (w.alloc (.cells (dC z128).toArray 3)) := by
  obtain ⟨i, hi, hz, hsz, hby⟩ := info_parts info3
  have := run_makeSlice (P := Tryd.prog) (w := w) 22 3 i _ Tryd.underlying22 hi hz .i64 .i64 128 128 (by decide) (by decide) (by rw [hsz]; decide) (by rw [hby]; decide) (by decide)
  rw [hsz] at this
  rw [this]
  have e : madeCells (Value.int .i64 0).cells ((128 : Int).toNat * 1) = (dC z128).toArray := by kernel_rfl
  rw [e]
  rfl
theorem mk97 (w : World) : (Instr.makeSlice 23 (.int .i64 128) (.int .i64 128)).run Tryd.prog w = .ok (.slice (some ⟨w.heap.size, 0, none⟩) 128 128) (w.alloc (.cells z256.toArray 35)) := by
  obtain ⟨i, hi, hz, hsz, hby⟩ := info_parts info25
  have := run_makeSlice (P := Tryd.prog) (w := w) 23 35 i _ Tryd.underlying23 hi hz .i64 .i64 128 128 (by decide) (by decide) (by rw [hsz]; decide) (by rw [hby]; decide) (by decide)
  rw [hsz] at this
  rw [this]
  have e : madeCells (Value.agg #[Value.int .u64 0, .int .u64 0]).cells ((128 : Int).toNat * 2) = z256.toArray := by kernel_rfl
  rw [e]
  rfl
def IsD (wz : World) (v : Value) (w : World) : Prop := ∃ g, v = .slice (some ⟨g, 0, none⟩) 128 128 ∧ wz.heap.size ≤ g ∧ w.heap[g]? = some (.cells (dC z128).toArray 3 (0, 0))
def IsP (wz : World) (v : Value) (w : World) : Prop := ∃ g, v = .slice (some ⟨g, 0, none⟩) 128 128 ∧ wz.heap.size ≤ g ∧ w.heap[g]? = some (.cells z256.toArray 35 (0, 0))
theorem IsD.keep {wz : World} (v : Value) (w w2 : World) (hb : Below w.heap.size w w2) (h : IsD wz v w) : IsD wz v w2 := by
  obtain ⟨g, h1, h2, h3⟩ := h
  exact ⟨g, h1, h2, heap_keep hb h3⟩
def IsT (wz : World) (r : Int) (v : Value) (w : World) : Prop := ∃ gD gP gH, v = .agg #[.int .i64 r, .slice (some ⟨gD, 0, none⟩) 128 128, .slice (some ⟨gP, 0, none⟩) 128 128, .slice (some ⟨gH, 0, none⟩) 128 128] ∧ wz.heap.size ≤ gD ∧ w.heap[gD]? = some (.cells (dC z128).toArray 3 (0, 0)) ∧ wz.heap.size ≤ gP ∧ w.heap[gP]? = some (.cells z256.toArray 35 (0, 0))
theorem IsT.keep {wz : World} {r : Int} (v : Value) (w w2 : World) (hb : Below w.heap.size w w2) (h : IsT wz r v w) : IsT wz r v w2 := by
  obtain ⟨gD, gP, gH, h1, h2, h3, h4, h5⟩ := h
  exact ⟨gD, gP, gH, h1, h2, heap_keep hb h3, h4, heap_keep hb h5⟩
def Is5 (wz : World) (v : Value) (w : World) : Prop := ∃ g old, v = .pointer (some ⟨g, 0, none⟩) ∧ wz.heap.size ≤ g ∧ w.heap[g]? = some (.cells old 25 (0, 0)) ∧ old.size = 4
theorem Is5.keep {wz : World} (v : Value) (w w2 : World) (hb : Below w.heap.size w w2) (h : Is5 wz v w) : Is5 wz v w2 := by
  obtain ⟨g, old, h1, h2, h3, h4⟩ := h
  exact ⟨g, old, h1, h2, heap_keep hb h3, h4⟩
theorem info99s : (Tryd.prog.info? 25).map (·.size) = some 4 := by kernel_rfl
theorem size99 (w : World) : (sizeOf 25).run Tryd.prog w = .ok 4 w := by kernel_rfl
theorem isAgg99 (w : World) : (isAgg 25).run Tryd.prog w = .ok true w := by kernel_rfl
theorem IsP.keep {wz : World} (v : Value) (w w2 : World) (hb : Below w.heap.size w w2) (h : IsP wz v w) : IsP wz v w2 := by
  obtain ⟨g, h1, h2, h3⟩ := h
  exact ⟨g, h1, h2, heap_keep hb h3⟩
theorem size97 (w : World) : (sizeOf 23).run Tryd.prog w = .ok 1 w := by kernel_rfl

def PF (W : World) (gP : Nat) (qs : List (Int × Int)) (w2 : World) : Prop := w2.heap[gP]? = some (.cells (pC qs).toArray 35 (0, 0)) ∧ (∀ j, j < W.heap.size → j ≠ gP → w2.heap[j]? = W.heap[j]?) ∧ Below gP W w2
/-- the class of a region that ends by a store (k) into the row of sets -/
def CP (W : World) (gP : Nat) (qs : List (Int × Int)) (k : Nat) (l : List Nat) : Og.Joint2.Cls := fun p _ w2 => (p k = true → ∀ j ∈ l, p j = true) ∧ (p k = false → Below W.heap.size W w2) ∧ (p k = true → PF W gP qs w2)
section
variable {W w2 w3 : World} {gP k : Nat} {qs : List (Int × Int)} {l : List Nat} {p : Nat → Bool} {vs : Nat → Value} {v : Value}
theorem CP.ini (h : Below W.heap.size W w2) : CP W gP qs k l (fun _ => false) vs w2 := ⟨fun e => (by cases e), fun _ => h, fun e => (by cases e)⟩
theorem CP.other {i : Nat} (h : i ≠ k) (c : CP W gP qs k l p vs w2) : CP W gP qs k l (Og.Joint2.pSet p i) (Og.Joint2.vSet vs i v) w2 := by
  have e : Og.Joint2.pSet p i k = p k := by simp [Og.Joint2.pSet, Ne.symm h]
  refine ⟨fun hk j hj => ?_, by rw [e]; exact c.2⟩
  rw [e] at hk
  simp [Og.Joint2.pSet, c.1 hk j hj]
theorem CP.bel {i : Nat} (c : CP W gP qs k l p vs w2) (hi : i ∈ l) (hp : p i = false) : Below W.heap.size W w2 := by
  cases hk : p k with
  | true => have := c.1 hk i hi; rw [hp] at this; cases this
  | false => exact c.2.1 hk
theorem CP.call {i : Nat} (c : CP W gP qs k l p vs w2) (hik : i ≠ k) (hi : i ∈ l) (hp : p i = false) (hb : Below w2.heap.size w2 w3) : CP W gP qs k l (Og.Joint2.pSet p i) (Og.Joint2.vSet vs i v) w3 := by
  have hk : p k = false := by
    cases hk : p k with
    | true => have := c.1 hk i hi; rw [hp] at this; cases this
    | false => rfl
  have e : Og.Joint2.pSet p i k = false := by simp [Og.Joint2.pSet, Ne.symm hik, hk]
  exact ⟨fun h => (by rw [e] at h; cases h), fun _ => bthen (c.2.1 hk) hb, fun h => (by rw [e] at h; cases h)⟩
theorem CP.done (h : ∀ j ∈ l, p j = true) (hf : PF W gP qs w3) : CP W gP qs k l (Og.Joint2.pSet p k) (Og.Joint2.vSet vs k v) w3 :=
  ⟨fun _ j hj => (by simp [Og.Joint2.pSet, h j hj]), fun h => (by simp [Og.Joint2.pSet] at h), fun _ => hf⟩
end
theorem CX.any {w0 w1 w : World} {k : Nat} {l : List Nat} {p : Nat → Bool} {vs : Nat → Value} (c : CX w0 w1 k l p vs w) : w = w0 ∨ w = w1 := by
  have := c.2
  cases hk : p k with
  | true => rw [hk] at this; exact .inr this
  | false => rw [hk] at this; exact .inl this
def sub1 : Code → Code | .seq a _ => a | .block _ c => c | .loop c => c | .cond _ a _ => a | .scope c => c | c => c
def sub2 : Code → Code | .seq _ b => b | .cond _ _ b => b | c => c
noncomputable def body47 : Code := match Tryd.f53.body with | some c => c | none => .skip
noncomputable def inner47 : Code := sub1 (sub2 (sub2 (sub2 (sub2 (sub2 (sub1 (sub1 (sub1 (sub2 (sub2 (sub2 (sub2 (sub2 (sub2 body47))))))))))))))
set_option maxRecDepth 100000 in
set_option maxHeartbeats 16000000 in
theorem Inner_ok (Q : Exit → Act → World → Prop) (xss : List (List Lk)) (V h b5 gD gP r0 m nl cc : Nat) (d : Int) (A : Option Addr) (lks : List Lk) (w w2 : World) (vH v2 : Value) (hs1 : Hs) (ds : List Int) (ps0 : List (Int × Int)) (s2 : Ts) (t2 t3 t6 t10 t11 t12 t13 t14 t15 t16 t17 t18 t19 t20 t21 t22 t23 t24 t25 t26 t27 t28 t29 t30 t31 t32 t33 t34 t35 t36 t37 t38 t39 t40 t41 t42 t43 t44 t45 t46 t47 t48 t49 t50 t51 t52 t53 t54 t55 t56 t57 t58 t59 t60 t61 t62 t66 t67 t68 t69 t70 t71 t72 t73 t74 t75 t76 t77 t78 t79 t80 t81 t82 t83 t84 t85 t86 t87 t88 t89 t90 t91 t92 t93 t94 t95 t96 t97 t98 t99 t100 t101 t102 t103 t104 t105 t106 t107 t108 t109 t110 t111 t112 t113 t114 t115 t116 t117 t118 t119 t120 t121 t122 t123 t124 t125 t126 t127 t128 t129 t130 t131 t132 t133 t134 t135 t136 t137 t138 t139 t140 t141 t142 t143 t144 t145 : Value)
    (OD : Hid (Od w.heap.size h b5 gD gP)) (T2 : Hid (Tr w h b5 gD gP (r0 : Int) vH w2 ⟨hs1, ds, ps0⟩ v2)) (RD : Hid (Rd cLk 4 w A lks)) (NL : Hid (nl = lks.length)) (nll : Hid (nl ≤ 20000)) (HRL : Hid (relaxL ⟨hs1, ds, ps0⟩ m d lks = some s2)) (hm8 : Hid (m < 128))
    (hQ : Hid (∀ (w' : World) (v' : Value) (u12 u13 u65 u66 u67 u68 u69 u70 u71 u72 u73 u74 u75 u76 u77 u78 u79 u80 u81 u82 u83 u84 u85 u86 u87 u88 u89 u90 u91 u92 u93 u94 u95 u96 u97 u98 u99 u100 u101 u102 u103 u104 u105 u106 u107 u108 u109 u110 u111 u112 u113 u114 u115 u116 u117 u118 u119 u120 u121 u122 u123 u124 u125 u126 u127 u128 u129 u130 u131 u132 u133 u134 u135 u136 u137 u138 u139 u140 u141 u142 u143 u144 u145 : Value), Tr w h b5 gD gP (r0 : Int) vH w' s2 v' → Q (.exit 4) { tmps := #[.pointer (some ⟨V, 0, none⟩), .int .i64 (r0 : Int), t2, t3, .pointer (some ⟨w.heap.size, 0, none⟩), .pointer (some ⟨b5, 0, none⟩), t6, .pointer (some ⟨h, 0, none⟩), .int .i64 (m : Int), .int .i64 d, t10, t11, u12, u13, t14, t15, t16, t17, t18, t19, t20, t21, t22, t23, t24, t25, t26, t27, t28, t29, t30, t31, t32, t33, t34, t35, t36, t37, t38, t39, t40, t41, t42, t43, t44, t45, t46, t47, t48, t49, t50, t51, t52, t53, t54, t55, t56, t57, t58, t59, t60, t61, t62, .slice A nl cc, .int .i64 (nl : Int), u65, u66, u67, u68, u69, u70, u71, u72, u73, u74, u75, u76, u77, u78, u79, u80, u81, u82, u83, u84, u85, u86, u87, u88, u89, u90, u91, u92, u93, u94, u95, u96, u97, u98, u99, u100, u101, u102, u103, u104, u105, u106, u107, u108, u109, u110, u111, u112, u113, u114, u115, u116, u117, u118, u119, u120, u121, u122, u123, u124, u125, u126, u127, u128, u129, u130, u131, u132, u133, u134, u135, u136, u137, u138, u139, u140, u141, u142, u143, u144, u145], defers := [] } w')) :
    inner47.wp Tryd.prog Q { tmps := #[.pointer (some ⟨V, 0, none⟩), .int .i64 (r0 : Int), t2, t3, .pointer (some ⟨w.heap.size, 0, none⟩), .pointer (some ⟨b5, 0, none⟩), t6, .pointer (some ⟨h, 0, none⟩), .int .i64 (m : Int), .int .i64 d, t10, t11, t12, t13, t14, t15, t16, t17, t18, t19, t20, t21, t22, t23, t24, t25, t26, t27, t28, t29, t30, t31, t32, t33, t34, t35, t36, t37, t38, t39, t40, t41, t42, t43, t44, t45, t46, t47, t48, t49, t50, t51, t52, t53, t54, t55, t56, t57, t58, t59, t60, t61, t62, .slice A nl cc, .int .i64 (nl : Int), .int .i64 0, t66, t67, t68, t69, t70, t71, t72, t73, t74, t75, t76, t77, t78, t79, t80, t81, t82, t83, t84, t85, t86, t87, t88, t89, t90, t91, t92, t93, t94, t95, t96, t97, t98, t99, t100, t101, t102, t103, t104, t105, t106, t107, t108, t109, t110, t111, t112, t113, t114, t115, t116, t117, t118, t119, t120, t121, t122, t123, t124, t125, t126, t127, t128, t129, t130, t131, t132, t133, t134, t135, t136, t137, t138, t139, t140, t141, t142, t143, t144, t145], defers := [] } w2 := by
  have hm0 : (0 : Int) ≤ (m : Int) := by omega
  have hm1 : (m : Int) < 128 := by have := hm8.out; omega
  simp only [inner47, body47, Tryd.f53, sub1, sub2]
  go_loopw [65] (fun i wr => ∃ (k : Nat) (s : Ts) (v : Value), k ≤ nl ∧ i = .int .i64 k ∧ Hid (Tr w h b5 gD gP (r0 : Int) vH wr s v) ∧ Hid (relaxL s m d (lks.drop k) = some s2)) (fun i _ => nl - (intOf i).toNat)
  case atStart => exact ⟨0, ⟨hs1, ds, ps0⟩, v2, by omega, rfl, T2, HRL⟩
  case round =>
    obtain ⟨k, s, v, hk, rfl, hT, hR⟩ := hrel
    by_cases hlt : k < nl
    · have hwk1 : IntKind.i64.wrap ((k : Int) + 1) = (k : Int) + 1 := by have := nll.out; rw [IntKind.wrap_i64]; omega
      have hk0 : (0 : Int) ≤ (k : Int) := by omega
      have hkn : (k : Int) < (nl : Int) := by omega
      obtain ⟨l, hl⟩ : ∃ l, lks[k]? = some l := ⟨_, List.getElem?_eq_getElem (by rw [← NL.out]; exact hlt)⟩
      obtain ⟨b0, o0, rfl, hat⟩ := RD.out k l hl
      have r1 := Lib.hid (run_loadL isAgg43 size43 (cLk_len l) (hat.below hT.out.low))
      obtain ⟨s', hrp, hrest⟩ := relaxL_drop hR.out hl
      obtain ⟨hto, old, hold, hcase⟩ := relaxP_some hrp
      have HREST := Lib.hid hrest
      simp only [oks, Bool.and_eq_true, decide_eq_true_eq] at hto
      obtain ⟨mt, hmt⟩ : ∃ m : Nat, l.t = (m : Int) := ⟨l.t.toNat, by omega⟩
      rw [hmt, Int.toNat_natCast] at hold hcase
      have MT := Lib.hid hmt
      have mt0 : (0 : Int) ≤ (mt : Int) := by omega
      have mt1 : (mt : Int) < 128 := by omega
      have HOLD := Lib.hid hold
      have HCASE := Lib.hid hcase
      have SUM := Lib.hid (fun w2 => Sum_ok d l.c w2)
      obtain ⟨c, hc⟩ : ∃ c, c = dsum d l.c := ⟨_, rfl⟩
      rw [← hc] at HCASE SUM
      obtain ⟨bl, hbl⟩ : ∃ bl, bl = wr.heap.size := ⟨_, rfl⟩
      have BL := Lib.hid hbl
      clear hl hat hrp hrest hto hold hcase hmt hc hR
      go_wp2_with (first | (refine wpList_loadL rfl 45 (.tmp 67) rfl b0 (o0 + k * 4) (.agg (cLk l).toArray) rfl r1.out ?_) | (refine wpList_storeN rfl 45 (.tmp 12) (.tmp 68) rfl rfl wr.heap.size (cLk l).toArray rfl rfl 45 _ (heap_at rfl) info43s rfl (by simp [Value.oneCell', cLk]) ?_; intro w3 hz hbb hn9 hs3; have b3 := below_storeA hbb; have ZL := Lib.hid hz; have T3 := Lib.hid (hT.out.below b3); have ql2 : w3.cell? ⟨wr.heap.size, 2, none⟩ = some (.int .i64 l.c) := (by rw [cell_of_row w3 _ 2 _ _ _ hz]; rfl); clear b3 hz hbb hn9 hs3))
      with_reducible refine (SUM.out _).mono ?_
      rintro e w4 ⟨rfl, hb4⟩
      have T4 := Lib.hid (T3.out.below hb4)
      have Z4 := Lib.hid (heap_keep hb4 ZL.out)
      rw [← hbl] at Z4 ⊢
      have BV : Hid (bl ≠ h ∧ v.ownBlock ≠ some bl) := Lib.hid ⟨by rw [hbl]; exact Nat.ne_of_gt hT.out.hp.lt, fun e => by have := (hT.out.hp.own.lt _ e).2; omega⟩
      have q51 : w4.cell? ⟨b5, 1, none⟩ = some (.slice (some ⟨gD, 0, none⟩) 128 128) := by rw [cell_of_row w4 _ 1 _ _ _ T4.out.k5]; rfl
      have ql1 : w4.cell? ⟨bl, 1, none⟩ = some (.int .i64 (mt : Int)) := by rw [cell_of_row w4 _ 1 _ _ _ Z4.out, ← MT.out]; rfl
      have qd : w4.cell? ⟨gD, mt, none⟩ = some (.int .i64 old) := by
        rw [cell_of_row w4 _ mt _ _ _ T4.out.kD]
        simp [dC, HOLD.out]
      clear hb4 ql2 r1 SUM T3 ZL hbl hT
      rcases HCASE.out with ⟨hinf, hs, hpu, rfl⟩ | ⟨hinf, hcl, hs, hlo, rfl⟩ | ⟨hinf, hcl, rfl⟩
      · have HPU := Lib.hid (fun w2 (k : Hp h w2 v s.hs.es s.hs.tb) => push_ok s.hs hs h (mt : Int) c v w2 k hpu)
        have hinf' : old = 1073741824 := hinf
        rw [hinf'] at qd
        clear hpu HCASE
        go_wp2_with fail
        with_reducible refine (HPU.out _ T4.out.hp).mono ?_
        rintro e wh ⟨rfl, fh, vh, Hh⟩
        have Th := Lib.hid (T4.out.heap OD.out fh Hh)
        have Zh := Lib.hid (fh.keep Z4.out BV.out.1 BV.out.2)
        clear fh Hh HPU q51 ql1 qd T4 Z4 BV
        have q51 : wh.cell? ⟨b5, 1, none⟩ = some (.slice (some ⟨gD, 0, none⟩) 128 128) := by rw [cell_of_row wh _ 1 _ _ _ Th.out.k5]; rfl
        have q52 : wh.cell? ⟨b5, 2, none⟩ = some (.slice (some ⟨gP, 0, none⟩) 128 128) := by rw [cell_of_row wh _ 2 _ _ _ Th.out.k5]; rfl
        have ql1 : wh.cell? ⟨bl, 1, none⟩ = some (.int .i64 (mt : Int)) := by rw [cell_of_row wh _ 1 _ _ _ Zh.out, ← MT.out]; rfl
        have qd : wh.cell? ⟨gD, mt, none⟩ = some (.int .i64 1073741824) := by
          rw [cell_of_row wh _ mt _ _ _ Th.out.kD]
          simp [dC, HOLD.out, ← hinf']
        have HINF := Lib.hid hinf'
        clear hinf hinf'
        by_cases hcl : c < old
        · rw [if_pos hcl] at HREST
          have hn2 : c < 1073741824 := by have := HINF.out; omega
          go_wp2_with fail
          obtain ⟨wA, rA, kA, sA, nA, bA⟩ := run_store1 (w := wh.drew) (k := mt) (ty := 3) (.int .i64 c) rfl rfl size3 (Th.out.below bdrew).kD (by simp [dC, Th.out.len]; omega)
          rw [dC_set] at kA
          have TA := Lib.hid ((Th.out.below bdrew).dist OD.out kA nA bA)
          have ZA := Lib.hid ((nA bl (fun e => by have h1 := Zh.out; rw [e, Th.out.kD] at h1; simp at h1)).trans (heap_keep bdrew Zh.out))
          have kps := TA.out.kP
          obtain ⟨wB, rB, kB, sB, nB, bB⟩ := run_storeB (k := mt) (0, 0) kps (by rw [pC_len, TA.out.plen]; omega); rw [pC_set _ _ _ (by rw [TA.out.plen]; omega)] at kB
          have TB := Lib.hid (TA.out.par OD.out kB (fun j _ hj => nB j hj) (bB gP (Nat.le_refl _)))
          have ZB := Lib.hid ((nB bl (fun e => by have h1 := ZA.out; rw [e, kps] at h1; simp at h1)).trans ZA.out)
          have RA := Lib.hid rA
          have RB : Hid ((storeVar 35 ⟨gP, mt * 2, none⟩ (.agg #[.int .u64 0, .int .u64 0])).run Tryd.prog wA = .ok () wB) := Lib.hid rB
          have HC : ∀ w5, (w5 = wh.drew ∨ w5 = wA) → w5.cell? ⟨b5, 1, none⟩ = some (.slice (some ⟨gD, 0, none⟩) 128 128) ∧ w5.cell? ⟨b5, 2, none⟩ = some (.slice (some ⟨gP, 0, none⟩) 128 128) ∧ w5.cell? ⟨bl, 1, none⟩ = some (.int .i64 (mt : Int)) := by
            intro w5 h5
            rcases h5 with rfl | rfl
            · exact ⟨bcell bdrew q51, bcell bdrew q52, bcell bdrew ql1⟩
            · exact ⟨by rw [cell_of_row w5 _ 1 _ _ _ TA.out.k5]; rfl, by rw [cell_of_row w5 _ 2 _ _ _ TA.out.k5]; rfl, by rw [cell_of_row w5 _ 1 _ _ _ ZA.out, ← MT.out]; rfl⟩
          clear rA kA sA nA bA kps rB kB sB nB bB q51 q52 ql1 qd Th Zh ZA
          refine Og.Joint2.walk_lit 12 [[],[0],[],[2],[],[4],[],[6],[],[],[1,3,0,2,8],[10,8,0,1,2,3],[5,7,0,1,2,3,4,6,8,9,10,11],[12,9,11,0,1,2,3,4,5,6,7,8,10]] (CX wh.drew wA 11 []) (fun _ _ => True) (by kernel_rfl) (by kernel_rfl) (by kernel_rfl) (fun vs => CX.ini) ?_
          simp only [List.take_succ_cons, List.take_zero, List.drop_succ_cons, List.drop_zero]
          iterate 11 (refine Og.Joint2.step_pureP (fun p vs v w h => h.other (by decide)) (fun _ => trivial) ?_; apply Exists.intro; refine And.intro ?_ ?_; focus (intro p vs w2 hp hC hk; have hm := HC w2 hC.any; refine Og.OptB.mk ?_; revert hk; simp only [Og.KS, Og.K0, Og.Is, List.getD_cons_zero, List.getD_cons_succ, List.getD_nil, List.contains_cons, List.contains_nil, Nat.reduceAdd, Nat.reduceBEq, Bool.or_false, Bool.false_or, Bool.or_true, Bool.true_or, Bool.false_eq_true, false_implies, true_implies, true_and, and_true, forall_const]; intros; go_simp; rfl))
          refine Og.Joint2.step_any (fun _ _ => True) (fun _ _ _ _ _ => trivial) ?_ ?_; focus (intro p vs w2 hp hC hk; obtain rfl := hC.now hp.1; revert hk; simp only [Og.KS, Og.K0, Og.Is, List.getD_cons_zero, List.getD_cons_succ, List.getD_nil, List.contains_cons, List.contains_nil, Nat.reduceAdd, Nat.reduceBEq, Bool.or_false, Bool.false_or, Bool.or_true, Bool.true_or, Bool.false_eq_true, false_implies, true_implies, true_and, and_true, forall_const]; intros; refine optB_storeR (by go_simp) rfl (by go_simp) (by go_simp) RA.out (CX.done (fun j hj => (by cases hj))))
          intro p vS w5 hp hC hk
          obtain rfl := hC.fin (hp 11 (by decide))
          simp only [Og.KS, Og.K0, Og.Is, List.getD_cons_zero, List.getD_cons_succ, List.getD_nil, List.contains_cons, List.contains_nil, Nat.reduceAdd, Nat.reduceBEq, Bool.or_false, Bool.false_or, Bool.or_true, Bool.true_or, Bool.false_eq_true, false_implies, true_implies, true_and, and_true, forall_const] at hk
          simp only [hk, Act.put, List.setIfInBounds_toArray, List.set_cons_zero, List.set_cons_succ]
          clear hk hp hC HC RA TA
          go_wp2_with (refine wpList_storeR (ty := 35) (x := .tmp 128) (y := .tmp 126) rfl rfl rfl (by go_simp) (by go_simp) RB.out ?_)
          clear RB
          have q51 : wB.cell? ⟨b5, 1, none⟩ = some (.slice (some ⟨gD, 0, none⟩) 128 128) := by rw [cell_of_row wB _ 1 _ _ _ TB.out.k5]; rfl
          have q52 : wB.cell? ⟨b5, 2, none⟩ = some (.slice (some ⟨gP, 0, none⟩) 128 128) := by rw [cell_of_row wB _ 2 _ _ _ TB.out.k5]; rfl
          have ql1 : wB.cell? ⟨bl, 1, none⟩ = some (.int .i64 (mt : Int)) := by rw [cell_of_row wB _ 1 _ _ _ ZB.out, ← MT.out]; rfl
          obtain ⟨qs, zz, hqs, hzz, kps, plq⟩ := TB.out.row (mt := mt) (by omega)
          have hz := pC_get _ _ _ hzz
          have HQS := Lib.hid hqs
          have HZZ := Lib.hid hzz
          have HB25 : Hid (∀ w5, Below wB.heap.size wB w5 → (loadVar 35 ⟨gP, mt * 2, none⟩).run Tryd.prog w5 = .ok (bV zz) w5) := Lib.hid (fun w5 h5 => by
            refine run_loadL (cs := [.int .u64 zz.1, .int .u64 zz.2]) isAgg25 size25 rfl (fun j u hu => ?_)
            rw [cell_of_row w5 gP _ _ _ _ (heap_keep h5 kps), List.getElem?_toArray]
            match j, hu with
            | 0, hu => cases hu; exact hz.1
            | 1, hu => cases hu; exact hz.2)
          have HW := Lib.hid (fun w2 => With_ok zz m hm8.out w2)
          have HS25 : Hid (∀ w5, Below wB.heap.size wB w5 → ∃ w6, (storeVar 35 ⟨gP, mt * 2, none⟩ (bV (withB zz m))).run Tryd.prog w5 = .ok () w6 ∧ PF wB gP (qs.set mt (withB zz m)) w6) := Lib.hid (fun w5 h5 => by
            obtain ⟨w6, r6, k6, s6, n6, b6⟩ := run_storeB (k := mt) (withB zz m) (heap_keep h5 kps) (by rw [pC_len, plq]; omega); rw [pC_set _ _ _ (by rw [plq]; omega)] at k6
            exact ⟨w6, r6, k6, fun j hj hne => (n6 j hne).trans (h5.block j hj), (h5.mono (Nat.le_of_lt (Array.getElem?_eq_some_iff.1 kps).1)).trans (b6 gP (Nat.le_refl _))⟩)
          have HC : ∀ w5, Below wB.heap.size wB w5 → w5.cell? ⟨b5, 2, none⟩ = some (.slice (some ⟨gP, 0, none⟩) 128 128) ∧ w5.cell? ⟨bl, 1, none⟩ = some (.int .i64 (mt : Int)) := fun w5 h5 => ⟨bcell h5 q52, bcell h5 ql1⟩
          clear kps plq hz hzz hqs q51 q52 ql1
          refine Og.Joint2.walk_lit 17 [[],[0],[],[2],[],[4],[],[6],[5,7,4,6],[8,5,7,4,6],[],[9,10,8,5,7,4,6],[11,9,10,8,5,7,4,6],[12,11,9,10,8,5,7,4,6],[12,11,9,10,8,5,7,4,6],[1,3,0,2,4,5,6,7,8,9,10,11,12,13],[15,13,11,0,1,2,3,4,5,6,7,8,9,10,12]] (CP wB gP (qs.set mt (withB zz m)) 16 [0,1,2,3,4,5,6,7,8,9,10,11,12,13,15]) (fun _ _ => True) (by kernel_rfl) (by kernel_rfl) (by kernel_rfl) (fun vs => CP.ini bdrew) ?_
          simp only [List.take_succ_cons, List.take_zero, List.drop_succ_cons, List.drop_zero]
          iterate 9 (refine Og.Joint2.step_pureP (fun p vs v w h => h.other (by decide)) (fun _ => trivial) ?_; apply Exists.intro; refine And.intro ?_ ?_; focus (intro p vs w2 hp hC hk; have hm := HC w2 (hC.bel (by decide) hp); refine Og.OptB.mk ?_; revert hk; simp only [Og.KS, Og.K0, Og.Is, List.getD_cons_zero, List.getD_cons_succ, List.getD_nil, List.contains_cons, List.contains_nil, Nat.reduceAdd, Nat.reduceBEq, Bool.or_false, Bool.false_or, Bool.or_true, Bool.true_or, Bool.false_eq_true, false_implies, true_implies, true_and, and_true, forall_const]; intros; go_simp; rfl))
          refine Og.Joint2.step_pureP (fun p vs v w h => h.other (by decide)) (fun _ => trivial) ?_; apply Exists.intro; refine And.intro ?_ ?_; focus (intro p vs w2 hp hC hk; have hl := HB25.out w2 (hC.bel (by decide) hp); revert hk; simp only [Og.KS, Og.K0, Og.Is, List.getD_cons_zero, List.getD_cons_succ, List.getD_nil, List.contains_cons, List.contains_nil, Nat.reduceAdd, Nat.reduceBEq, Bool.or_false, Bool.false_or, Bool.or_true, Bool.true_or, Bool.false_eq_true, false_implies, true_implies, true_and, and_true, forall_const]; intros; exact optB_loadL (by go_simp) rfl (by go_simp) hl ⟨rfl, rfl⟩)
          refine Og.Joint2.step_pureP (fun p vs v w h => h.other (by decide)) (fun _ => trivial) ?_; apply Exists.intro; refine And.intro ?_ ?_; focus (intro p vs w2 hp hC hk; have hm := HC w2 (hC.bel (by decide) hp); refine Og.OptB.mk ?_; revert hk; simp only [Og.KS, Og.K0, Og.Is, List.getD_cons_zero, List.getD_cons_succ, List.getD_nil, List.contains_cons, List.contains_nil, Nat.reduceAdd, Nat.reduceBEq, Bool.or_false, Bool.false_or, Bool.or_true, Bool.true_or, Bool.false_eq_true, false_implies, true_implies, true_and, and_true, forall_const]; intros; go_simp; rfl)
          refine Og.Joint2.step_any (Og.Is (.tuple #[bV (withB zz m), .int .i64 0])) (fun _ _ _ _ h => h) ?_ ?_; focus (intro p vs w2 hp hC hk; refine Og.OptB.mk ?_; revert hk; simp only [Og.KS, Og.K0, Og.Is, List.getD_cons_zero, List.getD_cons_succ, List.getD_nil, List.contains_cons, List.contains_nil, Nat.reduceAdd, Nat.reduceBEq, Bool.or_false, Bool.false_or, Bool.or_true, Bool.true_or, Bool.false_eq_true, false_implies, true_implies, true_and, and_true, forall_const]; intros; go_simp; with_reducible refine (HW.out w2).mono ?_; rintro e w3 ⟨rfl, hb3⟩; exact Og.RetV.mk ⟨hC.call (by decide) (by decide) hp.1 hb3, rfl⟩)
          iterate 2 (refine Og.Joint2.step_pureP (fun p vs v w h => h.other (by decide)) (fun _ => trivial) ?_; apply Exists.intro; refine And.intro ?_ ?_; focus (intro p vs w2 hp hC hk; have hm := HC w2 (hC.bel (by decide) hp); refine Og.OptB.mk ?_; revert hk; simp only [Og.KS, Og.K0, Og.Is, List.getD_cons_zero, List.getD_cons_succ, List.getD_nil, List.contains_cons, List.contains_nil, Nat.reduceAdd, Nat.reduceBEq, Bool.or_false, Bool.false_or, Bool.or_true, Bool.true_or, Bool.false_eq_true, false_implies, true_implies, true_and, and_true, forall_const]; intros; go_simp; rfl))
          refine Og.Joint2.step_pureP (fun p vs v w h => h.other (by decide)) (fun _ => trivial) ?_; apply Exists.intro; refine And.intro ?_ ?_; focus (intro p vs w2 hp hC hk; refine Og.OptB.mk ?_; revert hk; simp only [Og.KS, Og.K0, Og.Is, List.getD_cons_zero, List.getD_cons_succ, List.getD_nil, List.contains_cons, List.contains_nil, Nat.reduceAdd, Nat.reduceBEq, Bool.or_false, Bool.false_or, Bool.or_true, Bool.true_or, Bool.false_eq_true, false_implies, true_implies, true_and, and_true, forall_const]; intros; go_simp; rfl)
          refine Og.Joint2.step_pureP (fun p vs v w h => h.other (by decide)) (fun _ => trivial) ?_; apply Exists.intro; refine And.intro ?_ ?_; focus (intro p vs w2 hp hC hk; have hm := HC w2 (hC.bel (by decide) hp); refine Og.OptB.mk ?_; revert hk; simp only [Og.KS, Og.K0, Og.Is, List.getD_cons_zero, List.getD_cons_succ, List.getD_nil, List.contains_cons, List.contains_nil, Nat.reduceAdd, Nat.reduceBEq, Bool.or_false, Bool.false_or, Bool.or_true, Bool.true_or, Bool.false_eq_true, false_implies, true_implies, true_and, and_true, forall_const]; intros; go_simp; rfl)
          refine Og.Joint2.step_any (fun _ _ => True) (fun _ _ _ _ _ => trivial) ?_ ?_; focus (intro p vs w2 hp hC hk; have hdn : ∀ j ∈ [0,1,2,3,4,5,6,7,8,9,10,11,12,13,15], p j = true := (by intro j hj; exact hp.2 j (by revert hj; revert j; decide)); obtain ⟨wq, hrq, hpf⟩ := HS25.out w2 (hC.2.1 hp.1); revert hk; simp only [Og.KS, Og.K0, Og.Is, List.getD_cons_zero, List.getD_cons_succ, List.getD_nil, List.contains_cons, List.contains_nil, Nat.reduceAdd, Nat.reduceBEq, Bool.or_false, Bool.false_or, Bool.or_true, Bool.true_or, Bool.false_eq_true, false_implies, true_implies, true_and, and_true, forall_const]; intros; refine optB_storeR (by go_simp) rfl (by go_simp) (by go_simp) hrq (CP.done hdn hpf))
          intro p vS w5 hp hC hk
          obtain ⟨hp1, hp2, hp3⟩ := hC.2.2 (hp 16 (by decide))
          have TZ := Lib.hid (TB.out.parA OD.out HQS.out HZZ.out hp1 hp2 hp3)
          simp only [Og.KS, Og.K0, Og.Is, List.getD_cons_zero, List.getD_cons_succ, List.getD_nil, List.contains_cons, List.contains_nil, Nat.reduceAdd, Nat.reduceBEq, Bool.or_false, Bool.false_or, Bool.or_true, Bool.true_or, Bool.false_eq_true, false_implies, true_implies, true_and, and_true, forall_const] at hk
          simp only [hk, Act.put, List.setIfInBounds_toArray, List.set_cons_zero, List.set_cons_succ]
          clear hk hp hC HC HB25 HS25 HW hp1 hp2 hp3
          go_wp2_with fail
          go_roundw
          case rel => exact ⟨k + 1, _, _, by omega, by go_num, TZ, HREST⟩
          case measure => simp [intOf]; omega
        · rw [if_neg hcl] at HREST
          have hn2 : ¬ c < 1073741824 := by have := HINF.out; omega
          go_wp2_with fail
          clear qd q51 q52 ql1
          have q51 : wh.cell? ⟨b5, 1, none⟩ = some (.slice (some ⟨gD, 0, none⟩) 128 128) := by rw [cell_of_row wh _ 1 _ _ _ Th.out.k5]; rfl
          have q52 : wh.cell? ⟨b5, 2, none⟩ = some (.slice (some ⟨gP, 0, none⟩) 128 128) := by rw [cell_of_row wh _ 2 _ _ _ Th.out.k5]; rfl
          have ql1 : wh.cell? ⟨bl, 1, none⟩ = some (.int .i64 (mt : Int)) := by rw [cell_of_row wh _ 1 _ _ _ Zh.out, ← MT.out]; rfl
          obtain ⟨qs, zz, hqs, hzz, kps, plq⟩ := Th.out.row (mt := mt) (by omega)
          have hz := pC_get _ _ _ hzz
          have HQS := Lib.hid hqs
          have HZZ := Lib.hid hzz
          have HB25 : Hid (∀ w5, Below wh.heap.size wh w5 → (loadVar 35 ⟨gP, mt * 2, none⟩).run Tryd.prog w5 = .ok (bV zz) w5) := Lib.hid (fun w5 h5 => by
            refine run_loadL (cs := [.int .u64 zz.1, .int .u64 zz.2]) isAgg25 size25 rfl (fun j u hu => ?_)
            rw [cell_of_row w5 gP _ _ _ _ (heap_keep h5 kps), List.getElem?_toArray]
            match j, hu with
            | 0, hu => cases hu; exact hz.1
            | 1, hu => cases hu; exact hz.2)
          have HW := Lib.hid (fun w2 => With_ok zz m hm8.out w2)
          have HS25 : Hid (∀ w5, Below wh.heap.size wh w5 → ∃ w6, (storeVar 35 ⟨gP, mt * 2, none⟩ (bV (withB zz m))).run Tryd.prog w5 = .ok () w6 ∧ PF wh gP (qs.set mt (withB zz m)) w6) := Lib.hid (fun w5 h5 => by
            obtain ⟨w6, r6, k6, s6, n6, b6⟩ := run_storeB (k := mt) (withB zz m) (heap_keep h5 kps) (by rw [pC_len, plq]; omega); rw [pC_set _ _ _ (by rw [plq]; omega)] at k6
            exact ⟨w6, r6, k6, fun j hj hne => (n6 j hne).trans (h5.block j hj), (h5.mono (Nat.le_of_lt (Array.getElem?_eq_some_iff.1 kps).1)).trans (b6 gP (Nat.le_refl _))⟩)
          have HC : ∀ w5, Below wh.heap.size wh w5 → w5.cell? ⟨b5, 2, none⟩ = some (.slice (some ⟨gP, 0, none⟩) 128 128) ∧ w5.cell? ⟨bl, 1, none⟩ = some (.int .i64 (mt : Int)) := fun w5 h5 => ⟨bcell h5 q52, bcell h5 ql1⟩
          clear kps plq hz hzz hqs q51 q52 ql1
          refine Og.Joint2.walk_lit 17 [[],[0],[],[2],[],[4],[],[6],[5,7,4,6],[8,5,7,4,6],[],[9,10,8,5,7,4,6],[11,9,10,8,5,7,4,6],[12,11,9,10,8,5,7,4,6],[12,11,9,10,8,5,7,4,6],[1,3,0,2,4,5,6,7,8,9,10,11,12,13],[15,13,11,0,1,2,3,4,5,6,7,8,9,10,12]] (CP wh gP (qs.set mt (withB zz m)) 16 [0,1,2,3,4,5,6,7,8,9,10,11,12,13,15]) (fun _ _ => True) (by kernel_rfl) (by kernel_rfl) (by kernel_rfl) (fun vs => CP.ini bdrew) ?_
          simp only [List.take_succ_cons, List.take_zero, List.drop_succ_cons, List.drop_zero]
          iterate 9 (refine Og.Joint2.step_pureP (fun p vs v w h => h.other (by decide)) (fun _ => trivial) ?_; apply Exists.intro; refine And.intro ?_ ?_; focus (intro p vs w2 hp hC hk; have hm := HC w2 (hC.bel (by decide) hp); refine Og.OptB.mk ?_; revert hk; simp only [Og.KS, Og.K0, Og.Is, List.getD_cons_zero, List.getD_cons_succ, List.getD_nil, List.contains_cons, List.contains_nil, Nat.reduceAdd, Nat.reduceBEq, Bool.or_false, Bool.false_or, Bool.or_true, Bool.true_or, Bool.false_eq_true, false_implies, true_implies, true_and, and_true, forall_const]; intros; go_simp; rfl))
          refine Og.Joint2.step_pureP (fun p vs v w h => h.other (by decide)) (fun _ => trivial) ?_; apply Exists.intro; refine And.intro ?_ ?_; focus (intro p vs w2 hp hC hk; have hl := HB25.out w2 (hC.bel (by decide) hp); revert hk; simp only [Og.KS, Og.K0, Og.Is, List.getD_cons_zero, List.getD_cons_succ, List.getD_nil, List.contains_cons, List.contains_nil, Nat.reduceAdd, Nat.reduceBEq, Bool.or_false, Bool.false_or, Bool.or_true, Bool.true_or, Bool.false_eq_true, false_implies, true_implies, true_and, and_true, forall_const]; intros; exact optB_loadL (by go_simp) rfl (by go_simp) hl ⟨rfl, rfl⟩)
          refine Og.Joint2.step_pureP (fun p vs v w h => h.other (by decide)) (fun _ => trivial) ?_; apply Exists.intro; refine And.intro ?_ ?_; focus (intro p vs w2 hp hC hk; have hm := HC w2 (hC.bel (by decide) hp); refine Og.OptB.mk ?_; revert hk; simp only [Og.KS, Og.K0, Og.Is, List.getD_cons_zero, List.getD_cons_succ, List.getD_nil, List.contains_cons, List.contains_nil, Nat.reduceAdd, Nat.reduceBEq, Bool.or_false, Bool.false_or, Bool.or_true, Bool.true_or, Bool.false_eq_true, false_implies, true_implies, true_and, and_true, forall_const]; intros; go_simp; rfl)
          refine Og.Joint2.step_any (Og.Is (.tuple #[bV (withB zz m), .int .i64 0])) (fun _ _ _ _ h => h) ?_ ?_; focus (intro p vs w2 hp hC hk; refine Og.OptB.mk ?_; revert hk; simp only [Og.KS, Og.K0, Og.Is, List.getD_cons_zero, List.getD_cons_succ, List.getD_nil, List.contains_cons, List.contains_nil, Nat.reduceAdd, Nat.reduceBEq, Bool.or_false, Bool.false_or, Bool.or_true, Bool.true_or, Bool.false_eq_true, false_implies, true_implies, true_and, and_true, forall_const]; intros; go_simp; with_reducible refine (HW.out w2).mono ?_; rintro e w3 ⟨rfl, hb3⟩; exact Og.RetV.mk ⟨hC.call (by decide) (by decide) hp.1 hb3, rfl⟩)
          iterate 2 (refine Og.Joint2.step_pureP (fun p vs v w h => h.other (by decide)) (fun _ => trivial) ?_; apply Exists.intro; refine And.intro ?_ ?_; focus (intro p vs w2 hp hC hk; have hm := HC w2 (hC.bel (by decide) hp); refine Og.OptB.mk ?_; revert hk; simp only [Og.KS, Og.K0, Og.Is, List.getD_cons_zero, List.getD_cons_succ, List.getD_nil, List.contains_cons, List.contains_nil, Nat.reduceAdd, Nat.reduceBEq, Bool.or_false, Bool.false_or, Bool.or_true, Bool.true_or, Bool.false_eq_true, false_implies, true_implies, true_and, and_true, forall_const]; intros; go_simp; rfl))
          refine Og.Joint2.step_pureP (fun p vs v w h => h.other (by decide)) (fun _ => trivial) ?_; apply Exists.intro; refine And.intro ?_ ?_; focus (intro p vs w2 hp hC hk; refine Og.OptB.mk ?_; revert hk; simp only [Og.KS, Og.K0, Og.Is, List.getD_cons_zero, List.getD_cons_succ, List.getD_nil, List.contains_cons, List.contains_nil, Nat.reduceAdd, Nat.reduceBEq, Bool.or_false, Bool.false_or, Bool.or_true, Bool.true_or, Bool.false_eq_true, false_implies, true_implies, true_and, and_true, forall_const]; intros; go_simp; rfl)
          refine Og.Joint2.step_pureP (fun p vs v w h => h.other (by decide)) (fun _ => trivial) ?_; apply Exists.intro; refine And.intro ?_ ?_; focus (intro p vs w2 hp hC hk; have hm := HC w2 (hC.bel (by decide) hp); refine Og.OptB.mk ?_; revert hk; simp only [Og.KS, Og.K0, Og.Is, List.getD_cons_zero, List.getD_cons_succ, List.getD_nil, List.contains_cons, List.contains_nil, Nat.reduceAdd, Nat.reduceBEq, Bool.or_false, Bool.false_or, Bool.or_true, Bool.true_or, Bool.false_eq_true, false_implies, true_implies, true_and, and_true, forall_const]; intros; go_simp; rfl)
          refine Og.Joint2.step_any (fun _ _ => True) (fun _ _ _ _ _ => trivial) ?_ ?_; focus (intro p vs w2 hp hC hk; have hdn : ∀ j ∈ [0,1,2,3,4,5,6,7,8,9,10,11,12,13,15], p j = true := (by intro j hj; exact hp.2 j (by revert hj; revert j; decide)); obtain ⟨wq, hrq, hpf⟩ := HS25.out w2 (hC.2.1 hp.1); revert hk; simp only [Og.KS, Og.K0, Og.Is, List.getD_cons_zero, List.getD_cons_succ, List.getD_nil, List.contains_cons, List.contains_nil, Nat.reduceAdd, Nat.reduceBEq, Bool.or_false, Bool.false_or, Bool.or_true, Bool.true_or, Bool.false_eq_true, false_implies, true_implies, true_and, and_true, forall_const]; intros; refine optB_storeR (by go_simp) rfl (by go_simp) (by go_simp) hrq (CP.done hdn hpf))
          intro p vS w5 hp hC hk
          obtain ⟨hp1, hp2, hp3⟩ := hC.2.2 (hp 16 (by decide))
          have TZ := Lib.hid (Th.out.parA OD.out HQS.out HZZ.out hp1 hp2 hp3)
          simp only [Og.KS, Og.K0, Og.Is, List.getD_cons_zero, List.getD_cons_succ, List.getD_nil, List.contains_cons, List.contains_nil, Nat.reduceAdd, Nat.reduceBEq, Bool.or_false, Bool.false_or, Bool.or_true, Bool.true_or, Bool.false_eq_true, false_implies, true_implies, true_and, and_true, forall_const] at hk
          simp only [hk, Act.put, List.setIfInBounds_toArray, List.set_cons_zero, List.set_cons_succ]
          clear hk hp hC HC HB25 HS25 HW hp1 hp2 hp3
          go_wp2_with fail
          go_roundw
          case rel => exact ⟨k + 1, _, _, by omega, by go_num, TZ, HREST⟩
          case measure => simp [intOf]; omega
      · have HLO := Lib.hid (fun w2 (k : Hp h w2 v s.hs.es s.hs.tb) => lower_ok s.hs hs h (mt : Int) c v w2 k hlo)
        have hni : ¬ old = 1073741824 := hinf
        have hbq : (old == (1073741824 : Int)) = false := by simp; exact hni
        clear hlo HCASE hinf
        go_wp2_with fail
        with_reducible refine (HLO.out _ T4.out.hp).mono ?_
        rintro e wh ⟨rfl, fh, vh, Hh⟩
        have Th := Lib.hid (T4.out.heap OD.out fh Hh)
        have Zh := Lib.hid (fh.keep Z4.out BV.out.1 BV.out.2)
        clear fh Hh HLO q51 ql1 qd T4 Z4 BV
        have q51 : wh.cell? ⟨b5, 1, none⟩ = some (.slice (some ⟨gD, 0, none⟩) 128 128) := by rw [cell_of_row wh _ 1 _ _ _ Th.out.k5]; rfl
        have q52 : wh.cell? ⟨b5, 2, none⟩ = some (.slice (some ⟨gP, 0, none⟩) 128 128) := by rw [cell_of_row wh _ 2 _ _ _ Th.out.k5]; rfl
        have ql1 : wh.cell? ⟨bl, 1, none⟩ = some (.int .i64 (mt : Int)) := by rw [cell_of_row wh _ 1 _ _ _ Zh.out, ← MT.out]; rfl
        have qd : wh.cell? ⟨gD, mt, none⟩ = some (.int .i64 old) := by
          rw [cell_of_row wh _ mt _ _ _ Th.out.kD]
          simp [dC, HOLD.out]
        go_wp2_with fail
        obtain ⟨wA, rA, kA, sA, nA, bA⟩ := run_store1 (w := wh.drew) (k := mt) (ty := 3) (.int .i64 c) rfl rfl size3 (Th.out.below bdrew).kD (by simp [dC, Th.out.len]; omega)
        rw [dC_set] at kA
        have TA := Lib.hid ((Th.out.below bdrew).dist OD.out kA nA bA)
        have ZA := Lib.hid ((nA bl (fun e => by have h1 := Zh.out; rw [e, Th.out.kD] at h1; simp at h1)).trans (heap_keep bdrew Zh.out))
        have kps := TA.out.kP
        obtain ⟨wB, rB, kB, sB, nB, bB⟩ := run_storeB (k := mt) (0, 0) kps (by rw [pC_len, TA.out.plen]; omega); rw [pC_set _ _ _ (by rw [TA.out.plen]; omega)] at kB
        have TB := Lib.hid (TA.out.par OD.out kB (fun j _ hj => nB j hj) (bB gP (Nat.le_refl _)))
        have ZB := Lib.hid ((nB bl (fun e => by have h1 := ZA.out; rw [e, kps] at h1; simp at h1)).trans ZA.out)
        have RA := Lib.hid rA
        have RB : Hid ((storeVar 35 ⟨gP, mt * 2, none⟩ (.agg #[.int .u64 0, .int .u64 0])).run Tryd.prog wA = .ok () wB) := Lib.hid rB
        have HC : ∀ w5, (w5 = wh.drew ∨ w5 = wA) → w5.cell? ⟨b5, 1, none⟩ = some (.slice (some ⟨gD, 0, none⟩) 128 128) ∧ w5.cell? ⟨b5, 2, none⟩ = some (.slice (some ⟨gP, 0, none⟩) 128 128) ∧ w5.cell? ⟨bl, 1, none⟩ = some (.int .i64 (mt : Int)) := by
          intro w5 h5
          rcases h5 with rfl | rfl
          · exact ⟨bcell bdrew q51, bcell bdrew q52, bcell bdrew ql1⟩
          · exact ⟨by rw [cell_of_row w5 _ 1 _ _ _ TA.out.k5]; rfl, by rw [cell_of_row w5 _ 2 _ _ _ TA.out.k5]; rfl, by rw [cell_of_row w5 _ 1 _ _ _ ZA.out, ← MT.out]; rfl⟩
        clear rA kA sA nA bA kps rB kB sB nB bB q51 q52 ql1 qd Th Zh ZA
        refine Og.Joint2.walk_lit 12 [[],[0],[],[2],[],[4],[],[6],[],[],[1,3,0,2,8],[10,8,0,1,2,3],[5,7,0,1,2,3,4,6,8,9,10,11],[12,9,11,0,1,2,3,4,5,6,7,8,10]] (CX wh.drew wA 11 []) (fun _ _ => True) (by kernel_rfl) (by kernel_rfl) (by kernel_rfl) (fun vs => CX.ini) ?_
        simp only [List.take_succ_cons, List.take_zero, List.drop_succ_cons, List.drop_zero]
        iterate 11 (refine Og.Joint2.step_pureP (fun p vs v w h => h.other (by decide)) (fun _ => trivial) ?_; apply Exists.intro; refine And.intro ?_ ?_; focus (intro p vs w2 hp hC hk; have hm := HC w2 hC.any; refine Og.OptB.mk ?_; revert hk; simp only [Og.KS, Og.K0, Og.Is, List.getD_cons_zero, List.getD_cons_succ, List.getD_nil, List.contains_cons, List.contains_nil, Nat.reduceAdd, Nat.reduceBEq, Bool.or_false, Bool.false_or, Bool.or_true, Bool.true_or, Bool.false_eq_true, false_implies, true_implies, true_and, and_true, forall_const]; intros; go_simp; rfl))
        refine Og.Joint2.step_any (fun _ _ => True) (fun _ _ _ _ _ => trivial) ?_ ?_; focus (intro p vs w2 hp hC hk; obtain rfl := hC.now hp.1; revert hk; simp only [Og.KS, Og.K0, Og.Is, List.getD_cons_zero, List.getD_cons_succ, List.getD_nil, List.contains_cons, List.contains_nil, Nat.reduceAdd, Nat.reduceBEq, Bool.or_false, Bool.false_or, Bool.or_true, Bool.true_or, Bool.false_eq_true, false_implies, true_implies, true_and, and_true, forall_const]; intros; refine optB_storeR (by go_simp) rfl (by go_simp) (by go_simp) RA.out (CX.done (fun j hj => (by cases hj))))
        intro p vS w5 hp hC hk
        obtain rfl := hC.fin (hp 11 (by decide))
        simp only [Og.KS, Og.K0, Og.Is, List.getD_cons_zero, List.getD_cons_succ, List.getD_nil, List.contains_cons, List.contains_nil, Nat.reduceAdd, Nat.reduceBEq, Bool.or_false, Bool.false_or, Bool.or_true, Bool.true_or, Bool.false_eq_true, false_implies, true_implies, true_and, and_true, forall_const] at hk
        simp only [hk, Act.put, List.setIfInBounds_toArray, List.set_cons_zero, List.set_cons_succ]
        clear hk hp hC HC RA TA
        go_wp2_with (refine wpList_storeR (ty := 35) (x := .tmp 128) (y := .tmp 126) rfl rfl rfl (by go_simp) (by go_simp) RB.out ?_)
        clear RB
        have q51 : wB.cell? ⟨b5, 1, none⟩ = some (.slice (some ⟨gD, 0, none⟩) 128 128) := by rw [cell_of_row wB _ 1 _ _ _ TB.out.k5]; rfl
        have q52 : wB.cell? ⟨b5, 2, none⟩ = some (.slice (some ⟨gP, 0, none⟩) 128 128) := by rw [cell_of_row wB _ 2 _ _ _ TB.out.k5]; rfl
        have ql1 : wB.cell? ⟨bl, 1, none⟩ = some (.int .i64 (mt : Int)) := by rw [cell_of_row wB _ 1 _ _ _ ZB.out, ← MT.out]; rfl
        obtain ⟨qs, zz, hqs, hzz, kps, plq⟩ := TB.out.row (mt := mt) (by omega)
        have hz := pC_get _ _ _ hzz
        have HQS := Lib.hid hqs
        have HZZ := Lib.hid hzz
        have HB25 : Hid (∀ w5, Below wB.heap.size wB w5 → (loadVar 35 ⟨gP, mt * 2, none⟩).run Tryd.prog w5 = .ok (bV zz) w5) := Lib.hid (fun w5 h5 => by
          refine run_loadL (cs := [.int .u64 zz.1, .int .u64 zz.2]) isAgg25 size25 rfl (fun j u hu => ?_)
          rw [cell_of_row w5 gP _ _ _ _ (heap_keep h5 kps), List.getElem?_toArray]
          match j, hu with
          | 0, hu => cases hu; exact hz.1
          | 1, hu => cases hu; exact hz.2)
        have HW := Lib.hid (fun w2 => With_ok zz m hm8.out w2)
        have HS25 : Hid (∀ w5, Below wB.heap.size wB w5 → ∃ w6, (storeVar 35 ⟨gP, mt * 2, none⟩ (bV (withB zz m))).run Tryd.prog w5 = .ok () w6 ∧ PF wB gP (qs.set mt (withB zz m)) w6) := Lib.hid (fun w5 h5 => by
          obtain ⟨w6, r6, k6, s6, n6, b6⟩ := run_storeB (k := mt) (withB zz m) (heap_keep h5 kps) (by rw [pC_len, plq]; omega); rw [pC_set _ _ _ (by rw [plq]; omega)] at k6
          exact ⟨w6, r6, k6, fun j hj hne => (n6 j hne).trans (h5.block j hj), (h5.mono (Nat.le_of_lt (Array.getElem?_eq_some_iff.1 kps).1)).trans (b6 gP (Nat.le_refl _))⟩)
        have HC : ∀ w5, Below wB.heap.size wB w5 → w5.cell? ⟨b5, 2, none⟩ = some (.slice (some ⟨gP, 0, none⟩) 128 128) ∧ w5.cell? ⟨bl, 1, none⟩ = some (.int .i64 (mt : Int)) := fun w5 h5 => ⟨bcell h5 q52, bcell h5 ql1⟩
        clear kps plq hz hzz hqs q51 q52 ql1
        refine Og.Joint2.walk_lit 17 [[],[0],[],[2],[],[4],[],[6],[5,7,4,6],[8,5,7,4,6],[],[9,10,8,5,7,4,6],[11,9,10,8,5,7,4,6],[12,11,9,10,8,5,7,4,6],[12,11,9,10,8,5,7,4,6],[1,3,0,2,4,5,6,7,8,9,10,11,12,13],[15,13,11,0,1,2,3,4,5,6,7,8,9,10,12]] (CP wB gP (qs.set mt (withB zz m)) 16 [0,1,2,3,4,5,6,7,8,9,10,11,12,13,15]) (fun _ _ => True) (by kernel_rfl) (by kernel_rfl) (by kernel_rfl) (fun vs => CP.ini bdrew) ?_
        simp only [List.take_succ_cons, List.take_zero, List.drop_succ_cons, List.drop_zero]
        iterate 9 (refine Og.Joint2.step_pureP (fun p vs v w h => h.other (by decide)) (fun _ => trivial) ?_; apply Exists.intro; refine And.intro ?_ ?_; focus (intro p vs w2 hp hC hk; have hm := HC w2 (hC.bel (by decide) hp); refine Og.OptB.mk ?_; revert hk; simp only [Og.KS, Og.K0, Og.Is, List.getD_cons_zero, List.getD_cons_succ, List.getD_nil, List.contains_cons, List.contains_nil, Nat.reduceAdd, Nat.reduceBEq, Bool.or_false, Bool.false_or, Bool.or_true, Bool.true_or, Bool.false_eq_true, false_implies, true_implies, true_and, and_true, forall_const]; intros; go_simp; rfl))
        refine Og.Joint2.step_pureP (fun p vs v w h => h.other (by decide)) (fun _ => trivial) ?_; apply Exists.intro; refine And.intro ?_ ?_; focus (intro p vs w2 hp hC hk; have hl := HB25.out w2 (hC.bel (by decide) hp); revert hk; simp only [Og.KS, Og.K0, Og.Is, List.getD_cons_zero, List.getD_cons_succ, List.getD_nil, List.contains_cons, List.contains_nil, Nat.reduceAdd, Nat.reduceBEq, Bool.or_false, Bool.false_or, Bool.or_true, Bool.true_or, Bool.false_eq_true, false_implies, true_implies, true_and, and_true, forall_const]; intros; exact optB_loadL (by go_simp) rfl (by go_simp) hl ⟨rfl, rfl⟩)
        refine Og.Joint2.step_pureP (fun p vs v w h => h.other (by decide)) (fun _ => trivial) ?_; apply Exists.intro; refine And.intro ?_ ?_; focus (intro p vs w2 hp hC hk; have hm := HC w2 (hC.bel (by decide) hp); refine Og.OptB.mk ?_; revert hk; simp only [Og.KS, Og.K0, Og.Is, List.getD_cons_zero, List.getD_cons_succ, List.getD_nil, List.contains_cons, List.contains_nil, Nat.reduceAdd, Nat.reduceBEq, Bool.or_false, Bool.false_or, Bool.or_true, Bool.true_or, Bool.false_eq_true, false_implies, true_implies, true_and, and_true, forall_const]; intros; go_simp; rfl)
        refine Og.Joint2.step_any (Og.Is (.tuple #[bV (withB zz m), .int .i64 0])) (fun _ _ _ _ h => h) ?_ ?_; focus (intro p vs w2 hp hC hk; refine Og.OptB.mk ?_; revert hk; simp only [Og.KS, Og.K0, Og.Is, List.getD_cons_zero, List.getD_cons_succ, List.getD_nil, List.contains_cons, List.contains_nil, Nat.reduceAdd, Nat.reduceBEq, Bool.or_false, Bool.false_or, Bool.or_true, Bool.true_or, Bool.false_eq_true, false_implies, true_implies, true_and, and_true, forall_const]; intros; go_simp; with_reducible refine (HW.out w2).mono ?_; rintro e w3 ⟨rfl, hb3⟩; exact Og.RetV.mk ⟨hC.call (by decide) (by decide) hp.1 hb3, rfl⟩)
        iterate 2 (refine Og.Joint2.step_pureP (fun p vs v w h => h.other (by decide)) (fun _ => trivial) ?_; apply Exists.intro; refine And.intro ?_ ?_; focus (intro p vs w2 hp hC hk; have hm := HC w2 (hC.bel (by decide) hp); refine Og.OptB.mk ?_; revert hk; simp only [Og.KS, Og.K0, Og.Is, List.getD_cons_zero, List.getD_cons_succ, List.getD_nil, List.contains_cons, List.contains_nil, Nat.reduceAdd, Nat.reduceBEq, Bool.or_false, Bool.false_or, Bool.or_true, Bool.true_or, Bool.false_eq_true, false_implies, true_implies, true_and, and_true, forall_const]; intros; go_simp; rfl))
        refine Og.Joint2.step_pureP (fun p vs v w h => h.other (by decide)) (fun _ => trivial) ?_; apply Exists.intro; refine And.intro ?_ ?_; focus (intro p vs w2 hp hC hk; refine Og.OptB.mk ?_; revert hk; simp only [Og.KS, Og.K0, Og.Is, List.getD_cons_zero, List.getD_cons_succ, List.getD_nil, List.contains_cons, List.contains_nil, Nat.reduceAdd, Nat.reduceBEq, Bool.or_false, Bool.false_or, Bool.or_true, Bool.true_or, Bool.false_eq_true, false_implies, true_implies, true_and, and_true, forall_const]; intros; go_simp; rfl)
        refine Og.Joint2.step_pureP (fun p vs v w h => h.other (by decide)) (fun _ => trivial) ?_; apply Exists.intro; refine And.intro ?_ ?_; focus (intro p vs w2 hp hC hk; have hm := HC w2 (hC.bel (by decide) hp); refine Og.OptB.mk ?_; revert hk; simp only [Og.KS, Og.K0, Og.Is, List.getD_cons_zero, List.getD_cons_succ, List.getD_nil, List.contains_cons, List.contains_nil, Nat.reduceAdd, Nat.reduceBEq, Bool.or_false, Bool.false_or, Bool.or_true, Bool.true_or, Bool.false_eq_true, false_implies, true_implies, true_and, and_true, forall_const]; intros; go_simp; rfl)
        refine Og.Joint2.step_any (fun _ _ => True) (fun _ _ _ _ _ => trivial) ?_ ?_; focus (intro p vs w2 hp hC hk; have hdn : ∀ j ∈ [0,1,2,3,4,5,6,7,8,9,10,11,12,13,15], p j = true := (by intro j hj; exact hp.2 j (by revert hj; revert j; decide)); obtain ⟨wq, hrq, hpf⟩ := HS25.out w2 (hC.2.1 hp.1); revert hk; simp only [Og.KS, Og.K0, Og.Is, List.getD_cons_zero, List.getD_cons_succ, List.getD_nil, List.contains_cons, List.contains_nil, Nat.reduceAdd, Nat.reduceBEq, Bool.or_false, Bool.false_or, Bool.or_true, Bool.true_or, Bool.false_eq_true, false_implies, true_implies, true_and, and_true, forall_const]; intros; refine optB_storeR (by go_simp) rfl (by go_simp) (by go_simp) hrq (CP.done hdn hpf))
        intro p vS w5 hp hC hk
        obtain ⟨hp1, hp2, hp3⟩ := hC.2.2 (hp 16 (by decide))
        have TZ := Lib.hid (TB.out.parA OD.out HQS.out HZZ.out hp1 hp2 hp3)
        simp only [Og.KS, Og.K0, Og.Is, List.getD_cons_zero, List.getD_cons_succ, List.getD_nil, List.contains_cons, List.contains_nil, Nat.reduceAdd, Nat.reduceBEq, Bool.or_false, Bool.false_or, Bool.or_true, Bool.true_or, Bool.false_eq_true, false_implies, true_implies, true_and, and_true, forall_const] at hk
        simp only [hk, Act.put, List.setIfInBounds_toArray, List.set_cons_zero, List.set_cons_succ]
        clear hk hp hC HC HB25 HS25 HW hp1 hp2 hp3
        go_wp2_with fail
        go_roundw
        case rel => exact ⟨k + 1, _, _, by omega, by go_num, TZ, HREST⟩
        case measure => simp [intOf]; omega
      · have hni : ¬ old = 1073741824 := hinf
        have hbq : (old == (1073741824 : Int)) = false := by simp; exact hni
        clear HCASE hinf
        by_cases hgt : old < c
        · rw [if_pos hgt] at HREST
          go_wp2_with fail
          go_roundw
          case rel => exact ⟨k + 1, _, _, by omega, by go_num, T4, HREST⟩
          case measure => simp [intOf]; omega
        · rw [if_neg hgt] at HREST
          go_wp2_with fail
          clear qd q51 ql1
          have q51 : w4.cell? ⟨b5, 1, none⟩ = some (.slice (some ⟨gD, 0, none⟩) 128 128) := by rw [cell_of_row w4 _ 1 _ _ _ T4.out.k5]; rfl
          have q52 : w4.cell? ⟨b5, 2, none⟩ = some (.slice (some ⟨gP, 0, none⟩) 128 128) := by rw [cell_of_row w4 _ 2 _ _ _ T4.out.k5]; rfl
          have ql1 : w4.cell? ⟨bl, 1, none⟩ = some (.int .i64 (mt : Int)) := by rw [cell_of_row w4 _ 1 _ _ _ Z4.out, ← MT.out]; rfl
          obtain ⟨qs, zz, hqs, hzz, kps, plq⟩ := T4.out.row (mt := mt) (by omega)
          have hz := pC_get _ _ _ hzz
          have HQS := Lib.hid hqs
          have HZZ := Lib.hid hzz
          have HB25 : Hid (∀ w5, Below w4.heap.size w4 w5 → (loadVar 35 ⟨gP, mt * 2, none⟩).run Tryd.prog w5 = .ok (bV zz) w5) := Lib.hid (fun w5 h5 => by
            refine run_loadL (cs := [.int .u64 zz.1, .int .u64 zz.2]) isAgg25 size25 rfl (fun j u hu => ?_)
            rw [cell_of_row w5 gP _ _ _ _ (heap_keep h5 kps), List.getElem?_toArray]
            match j, hu with
            | 0, hu => cases hu; exact hz.1
            | 1, hu => cases hu; exact hz.2)
          have HW := Lib.hid (fun w2 => With_ok zz m hm8.out w2)
          have HS25 : Hid (∀ w5, Below w4.heap.size w4 w5 → ∃ w6, (storeVar 35 ⟨gP, mt * 2, none⟩ (bV (withB zz m))).run Tryd.prog w5 = .ok () w6 ∧ PF w4 gP (qs.set mt (withB zz m)) w6) := Lib.hid (fun w5 h5 => by
            obtain ⟨w6, r6, k6, s6, n6, b6⟩ := run_storeB (k := mt) (withB zz m) (heap_keep h5 kps) (by rw [pC_len, plq]; omega); rw [pC_set _ _ _ (by rw [plq]; omega)] at k6
            exact ⟨w6, r6, k6, fun j hj hne => (n6 j hne).trans (h5.block j hj), (h5.mono (Nat.le_of_lt (Array.getElem?_eq_some_iff.1 kps).1)).trans (b6 gP (Nat.le_refl _))⟩)
          have HC : ∀ w5, Below w4.heap.size w4 w5 → w5.cell? ⟨b5, 2, none⟩ = some (.slice (some ⟨gP, 0, none⟩) 128 128) ∧ w5.cell? ⟨bl, 1, none⟩ = some (.int .i64 (mt : Int)) := fun w5 h5 => ⟨bcell h5 q52, bcell h5 ql1⟩
          clear kps plq hz hzz hqs q51 q52 ql1
          refine Og.Joint2.walk_lit 17 [[],[0],[],[2],[],[4],[],[6],[5,7,4,6],[8,5,7,4,6],[],[9,10,8,5,7,4,6],[11,9,10,8,5,7,4,6],[12,11,9,10,8,5,7,4,6],[12,11,9,10,8,5,7,4,6],[1,3,0,2,4,5,6,7,8,9,10,11,12,13],[15,13,11,0,1,2,3,4,5,6,7,8,9,10,12]] (CP w4 gP (qs.set mt (withB zz m)) 16 [0,1,2,3,4,5,6,7,8,9,10,11,12,13,15]) (fun _ _ => True) (by kernel_rfl) (by kernel_rfl) (by kernel_rfl) (fun vs => CP.ini bdrew) ?_
          simp only [List.take_succ_cons, List.take_zero, List.drop_succ_cons, List.drop_zero]
          iterate 9 (refine Og.Joint2.step_pureP (fun p vs v w h => h.other (by decide)) (fun _ => trivial) ?_; apply Exists.intro; refine And.intro ?_ ?_; focus (intro p vs w2 hp hC hk; have hm := HC w2 (hC.bel (by decide) hp); refine Og.OptB.mk ?_; revert hk; simp only [Og.KS, Og.K0, Og.Is, List.getD_cons_zero, List.getD_cons_succ, List.getD_nil, List.contains_cons, List.contains_nil, Nat.reduceAdd, Nat.reduceBEq, Bool.or_false, Bool.false_or, Bool.or_true, Bool.true_or, Bool.false_eq_true, false_implies, true_implies, true_and, and_true, forall_const]; intros; go_simp; rfl))
          refine Og.Joint2.step_pureP (fun p vs v w h => h.other (by decide)) (fun _ => trivial) ?_; apply Exists.intro; refine And.intro ?_ ?_; focus (intro p vs w2 hp hC hk; have hl := HB25.out w2 (hC.bel (by decide) hp); revert hk; simp only [Og.KS, Og.K0, Og.Is, List.getD_cons_zero, List.getD_cons_succ, List.getD_nil, List.contains_cons, List.contains_nil, Nat.reduceAdd, Nat.reduceBEq, Bool.or_false, Bool.false_or, Bool.or_true, Bool.true_or, Bool.false_eq_true, false_implies, true_implies, true_and, and_true, forall_const]; intros; exact optB_loadL (by go_simp) rfl (by go_simp) hl ⟨rfl, rfl⟩)
          refine Og.Joint2.step_pureP (fun p vs v w h => h.other (by decide)) (fun _ => trivial) ?_; apply Exists.intro; refine And.intro ?_ ?_; focus (intro p vs w2 hp hC hk; have hm := HC w2 (hC.bel (by decide) hp); refine Og.OptB.mk ?_; revert hk; simp only [Og.KS, Og.K0, Og.Is, List.getD_cons_zero, List.getD_cons_succ, List.getD_nil, List.contains_cons, List.contains_nil, Nat.reduceAdd, Nat.reduceBEq, Bool.or_false, Bool.false_or, Bool.or_true, Bool.true_or, Bool.false_eq_true, false_implies, true_implies, true_and, and_true, forall_const]; intros; go_simp; rfl)
          refine Og.Joint2.step_any (Og.Is (.tuple #[bV (withB zz m), .int .i64 0])) (fun _ _ _ _ h => h) ?_ ?_; focus (intro p vs w2 hp hC hk; refine Og.OptB.mk ?_; revert hk; simp only [Og.KS, Og.K0, Og.Is, List.getD_cons_zero, List.getD_cons_succ, List.getD_nil, List.contains_cons, List.contains_nil, Nat.reduceAdd, Nat.reduceBEq, Bool.or_false, Bool.false_or, Bool.or_true, Bool.true_or, Bool.false_eq_true, false_implies, true_implies, true_and, and_true, forall_const]; intros; go_simp; with_reducible refine (HW.out w2).mono ?_; rintro e w3 ⟨rfl, hb3⟩; exact Og.RetV.mk ⟨hC.call (by decide) (by decide) hp.1 hb3, rfl⟩)
          iterate 2 (refine Og.Joint2.step_pureP (fun p vs v w h => h.other (by decide)) (fun _ => trivial) ?_; apply Exists.intro; refine And.intro ?_ ?_; focus (intro p vs w2 hp hC hk; have hm := HC w2 (hC.bel (by decide) hp); refine Og.OptB.mk ?_; revert hk; simp only [Og.KS, Og.K0, Og.Is, List.getD_cons_zero, List.getD_cons_succ, List.getD_nil, List.contains_cons, List.contains_nil, Nat.reduceAdd, Nat.reduceBEq, Bool.or_false, Bool.false_or, Bool.or_true, Bool.true_or, Bool.false_eq_true, false_implies, true_implies, true_and, and_true, forall_const]; intros; go_simp; rfl))
          refine Og.Joint2.step_pureP (fun p vs v w h => h.other (by decide)) (fun _ => trivial) ?_; apply Exists.intro; refine And.intro ?_ ?_; focus (intro p vs w2 hp hC hk; refine Og.OptB.mk ?_; revert hk; simp only [Og.KS, Og.K0, Og.Is, List.getD_cons_zero, List.getD_cons_succ, List.getD_nil, List.contains_cons, List.contains_nil, Nat.reduceAdd, Nat.reduceBEq, Bool.or_false, Bool.false_or, Bool.or_true, Bool.true_or, Bool.false_eq_true, false_implies, true_implies, true_and, and_true, forall_const]; intros; go_simp; rfl)
          refine Og.Joint2.step_pureP (fun p vs v w h => h.other (by decide)) (fun _ => trivial) ?_; apply Exists.intro; refine And.intro ?_ ?_; focus (intro p vs w2 hp hC hk; have hm := HC w2 (hC.bel (by decide) hp); refine Og.OptB.mk ?_; revert hk; simp only [Og.KS, Og.K0, Og.Is, List.getD_cons_zero, List.getD_cons_succ, List.getD_nil, List.contains_cons, List.contains_nil, Nat.reduceAdd, Nat.reduceBEq, Bool.or_false, Bool.false_or, Bool.or_true, Bool.true_or, Bool.false_eq_true, false_implies, true_implies, true_and, and_true, forall_const]; intros; go_simp; rfl)
          refine Og.Joint2.step_any (fun _ _ => True) (fun _ _ _ _ _ => trivial) ?_ ?_; focus (intro p vs w2 hp hC hk; have hdn : ∀ j ∈ [0,1,2,3,4,5,6,7,8,9,10,11,12,13,15], p j = true := (by intro j hj; exact hp.2 j (by revert hj; revert j; decide)); obtain ⟨wq, hrq, hpf⟩ := HS25.out w2 (hC.2.1 hp.1); revert hk; simp only [Og.KS, Og.K0, Og.Is, List.getD_cons_zero, List.getD_cons_succ, List.getD_nil, List.contains_cons, List.contains_nil, Nat.reduceAdd, Nat.reduceBEq, Bool.or_false, Bool.false_or, Bool.or_true, Bool.true_or, Bool.false_eq_true, false_implies, true_implies, true_and, and_true, forall_const]; intros; refine optB_storeR (by go_simp) rfl (by go_simp) (by go_simp) hrq (CP.done hdn hpf))
          intro p vS w5 hp hC hk
          obtain ⟨hp1, hp2, hp3⟩ := hC.2.2 (hp 16 (by decide))
          have TZ := Lib.hid (T4.out.parA OD.out HQS.out HZZ.out hp1 hp2 hp3)
          simp only [Og.KS, Og.K0, Og.Is, List.getD_cons_zero, List.getD_cons_succ, List.getD_nil, List.contains_cons, List.contains_nil, Nat.reduceAdd, Nat.reduceBEq, Bool.or_false, Bool.false_or, Bool.or_true, Bool.true_or, Bool.false_eq_true, false_implies, true_implies, true_and, and_true, forall_const] at hk
          simp only [hk, Act.put, List.setIfInBounds_toArray, List.set_cons_zero, List.set_cons_succ]
          clear hk hp hC HC HB25 HS25 HW hp1 hp2 hp3
          go_wp2_with fail
          go_roundw
          case rel => exact ⟨k + 1, _, _, by omega, by go_num, TZ, HREST⟩
          case measure => simp [intOf]; omega
    · have hkn : k = nl := by omega
      subst hkn
      have hend : Hid (s = s2) := Lib.hid (by
        have := hR.out
        rw [List.drop_of_length_le (by have := NL.out; omega)] at this
        simpa [relaxL] using this)
      go_wp2_with fail
      rw [hend.out] at hT
      exact hQ.out _ _ _ _ _ _ _ _ _ _ _ _ _ _ _ _ _ _ _ _ _ _ _ _ _ _ _ _ _ _ _ _ _ _ _ _ _ _ _ _ _ _ _ _ _ _ _ _ _ _ _ _ _ _ _ _ _ _ _ _ _ _ _ _ _ _ _ _ _ _ _ _ _ _ _ _ _ _ _ _ _ _ _ _ _ hT.out

end Go.Proofs.YtjbglifmppilfaaDoor
