/- Rings: Near and Far of a sound graph; conditions as stated. -/
import Derived.Test.YtpklcefiabjplaaS3
import Derived.Test.YtpklcefiabjplaaOg4
namespace Go.Proofs.Ytpklcefiabjplaa
open Go.ChangeShapes Go.WideShapes Go.ChangeAt Go.RowKit
set_option linter.unusedVariables false
set_option linter.unusedSimpArgs false
attribute [local go_sem] Og.Opt Og.OpY

attribute [local go_sem] Og.Opt Og.OpY
def zT : Array Value := #[.int .i64 0, .slice none 0 0, .slice none 0 0, .slice none 0 0]
/-- a tree as a value -/
def Trv (a : Int) (ds : List Int) (v : Value) (w : World) : Prop := ∃ gD vP vH, v = .agg #[.int .i64 a, .slice (some ⟨gD, 0, none⟩) 128 128, vP, vH] ∧ AtL w gD 0 (dC ds) ∧ ds.length = 128 ∧ vP.oneCell' = true ∧ vH.oneCell' = true
theorem Trv.keep {a : Int} {ds : List Int} {v : Value} {w w' : World} (h : Trv a ds v w) (hb : Below w.heap.size w w') : Trv a ds v w' := by
  obtain ⟨gD, vP, vH, h1, h2, h3⟩ := h
  exact ⟨gD, vP, vH, h1, h2.below hb, h3⟩
/-- a fresh tree -/
def AT (wq : World) (v : Value) (w : World) : Prop := ∃ g, v = .pointer (some ⟨g, 0, none⟩) ∧ wq.heap.size ≤ g ∧ w.heap[g]? = some (.cells zT 99 (0, 0))
theorem AT.keep {wq w w' : World} {v : Value} (h : AT wq v w) (hb : Below w.heap.size w w') : AT wq v w' := by
  obtain ⟨g, h1, h2, h3⟩ := h
  exact ⟨g, h1, h2, heap_keep hb h3⟩
theorem AT.new {wq w : World} (hb : Below wq.heap.size wq w) : AT wq (.pointer (some ⟨w.heap.size, 0, none⟩)) (w.alloc (.cells zT 99)) := ⟨_, rfl, hb.size, heap_alloc_new w _⟩
theorem AT.ne {wq w : World} {v : Value} (h : AT wq v w) : v ≠ .pointer (some ⟨w.heap.size, 0, none⟩) := by
  obtain ⟨g, rfl, _, h3⟩ := h
  intro e
  cases e
  exact absurd (Array.getElem?_eq_some_iff.1 h3).1 (Nat.lt_irrefl _)
/-- what is known while two trees are made -/
def CT (wq : World) : Og.Joint.Cls := fun p vs w => Below wq.heap.size wq w ∧ (p 6 = true → AT wq (vs 6) w) ∧ (p 7 = true → AT wq (vs 7) w) ∧ (p 6 = true → p 7 = true → vs 6 ≠ vs 7)
theorem CT.start {wq w : World} (hb : Below wq.heap.size wq w) : ∀ vs, CT wq (fun _ => false) vs w := fun vs => ⟨hb, fun h => (by cases h), fun h => (by cases h), fun h => (by cases h)⟩
theorem CT.other {wq w w' : World} {p : Nat → Bool} {vs : Nat → Value} {i : Nat} {v : Value} (h8 : i ≠ 6) (h9 : i ≠ 7) (h : CT wq p vs w) (hb : Below w.heap.size w w') : CT wq (Og.Joint.pSet p i) (Og.Joint.vSet vs i v) w' := by
  obtain ⟨h1, h2, h3, h4⟩ := h
  have e8 : Og.Joint.pSet p i 6 = p 6 := by simp [Og.Joint.pSet]; intro e; exact absurd e.symm h8
  have e9 : Og.Joint.pSet p i 7 = p 7 := by simp [Og.Joint.pSet]; intro e; exact absurd e.symm h9
  have v8 : Og.Joint.vSet vs i v 6 = vs 6 := by simp only [Og.Joint.vSet]; rw [if_neg (fun e => h8 e.symm)]
  have v9 : Og.Joint.vSet vs i v 7 = vs 7 := by simp only [Og.Joint.vSet]; rw [if_neg (fun e => h9 e.symm)]
  unfold CT
  rw [e8, e9, v8, v9]
  exact ⟨bthen h1 hb, fun h => (h2 h).keep hb, fun h => (h3 h).keep hb, h4⟩
theorem CT.a6 {wq w : World} {p : Nat → Bool} {vs : Nat → Value} (h : CT wq p vs w) : CT wq (Og.Joint.pSet p 6) (Og.Joint.vSet vs 6 (.pointer (some ⟨w.heap.size, 0, none⟩))) (w.alloc (.cells zT 99)) := by
  obtain ⟨h1, h2, h3, h4⟩ := h
  have hb : Below w.heap.size w (w.alloc (.cells zT 99)) := (Below.refl _ _).alloc (Nat.le_refl _) _
  have e9 : Og.Joint.pSet p 6 7 = p 7 := by simp [Og.Joint.pSet]
  refine ⟨bthen h1 hb, fun _ => AT.new h1, fun h => ?_, fun _ h => ?_⟩
  · rw [e9] at h; exact (h3 h).keep hb
  · rw [e9] at h; exact fun e => (h3 h).ne e.symm
theorem CT.a7 {wq w : World} {p : Nat → Bool} {vs : Nat → Value} (h : CT wq p vs w) : CT wq (Og.Joint.pSet p 7) (Og.Joint.vSet vs 7 (.pointer (some ⟨w.heap.size, 0, none⟩))) (w.alloc (.cells zT 99)) := by
  obtain ⟨h1, h2, h3, h4⟩ := h
  have hb : Below w.heap.size w (w.alloc (.cells zT 99)) := (Below.refl _ _).alloc (Nat.le_refl _) _
  have e8 : Og.Joint.pSet p 7 6 = p 6 := by simp [Og.Joint.pSet]
  refine ⟨bthen h1 hb, fun h => ?_, fun _ => AT.new h1, fun h _ => ?_⟩
  · rw [e8] at h; exact (h2 h).keep hb
  · rw [e8] at h; exact fun e => (h2 h).ne e
theorem AtL.other {w w' : World} {g : Nat} {cs : List Value} (h : AtL w g 0 cs) (e : w'.heap[g]? = w.heap[g]?) : AtL w' g 0 cs := fun j v hv => (World.cell?_of_block (a := ⟨g, 0 + j, none⟩) e).trans (h j v hv)
theorem dC_ne {w : World} {g g' : Nat} {ds : List Int} {arr : Array Value} {t : TypeId} (h : AtL w g 0 (dC ds)) (hl : ds.length = 128) (hk : w.heap[g']? = some (.cells arr t (0, 0))) (h1 : ∀ z, arr[1]? ≠ some (.int .i64 z)) : g ≠ g' := by
  intro e
  subst e
  have h2 := dC_at h hl (k := 1) (by omega)
  rw [cell_of_row _ _ 1 _ _ _ hk] at h2
  exact h1 _ h2
theorem GX.oks {w : World} {va vb vc : Value} {ns : List Nd} {ls : List Lk} (g : GX w va vb vc ns ls) : (∀ x ∈ ns, oks x.i = true) ∧ (∀ l ∈ ls, oks l.f = true ∧ oks l.t = true) := by
  refine ⟨fun x hm => ?_, fun l hm => ?_⟩
  · obtain ⟨i, hi⟩ := List.mem_iff_getElem?.1 hm
    have a1 := rng_of (g.snd.nr i x hi)
    simp only [_root_.Go.Proofs.Ytpklcefiabjplaa.oks, Bool.and_eq_true, decide_eq_true_eq]
    omega
  · obtain ⟨i, hi⟩ := List.mem_iff_getElem?.1 hm
    obtain ⟨h1, h2, -⟩ := g.snd.lr i l hi
    have a1 := rng_of (g.snd.at h1)
    have a2 := rng_of (g.snd.at h2)
    simp only [_root_.Go.Proofs.Ytpklcefiabjplaa.oks, Bool.and_eq_true, decide_eq_true_eq]
    omega
theorem GX.of {w : World} {va vb vc : Value} {ns : List Nd} {ls : List Lk} (g : GX w va vb vc ns ls) : Calls Try.prog 20 #[.agg #[va, vb, vc]] w fun e w' => (∃ V vs, e = .returned (.pointer (some ⟨V, 0, none⟩)) ∧ w.heap.size ≤ V ∧ Vw V w' vs (viewL ls)) ∧ Below w.heap.size w w' :=
  full_Of_ok ns ls va vb vc w g.sa g.sb (by have := g.len; omega) (by have := g.snd.ll; omega) g.oks.1 g.oks.2
theorem GX.small {w : World} {va vb vc : Value} {ns : List Nd} {ls : List Lk} (g : GX w va vb vc ns ls) : ∀ (j : Nat) (xs : List Lk), (viewL ls)[j]? = some xs → xs.length ≤ 20000 := fun j xs hx => Nat.le_trans (viewL_small ls j xs hx) (by have := g.snd.ll; omega)

set_option maxRecDepth 100000 in
set_option maxHeartbeats 16000000 in
theorem Far_ok (a f t : Nat) (c d : Int) (k0 : Nat) (hds : Nat → List Int) (td : List Int) (ns : List Nd) (ls : List Lk) (va vb vc : Value) (w : World) (g : GX w va vb vc ns ls)
    (hna : ∃ k : Nat, ns[k]? = some ⟨(a : Int)⟩) (hnf : ∃ k : Nat, ns[k]? = some ⟨(f : Int)⟩) (hnt : ∃ k : Nat, ns[k]? = some ⟨(t : Int)⟩)
    (hk : ls[k0]? = some ⟨f, t, c, d⟩) (hat : At (fun x => cmpL x ⟨f, t, 0, 0⟩) ls k0 true) (hh : ∀ n : Nat, (∃ x ∈ ns, x.i = (n : Int)) → treeP (viewL ls) (n : Int) = some (hds n)) (ht : treeP (viewL ls) (t : Int) = some td) :
    Calls Try.prog 19 #[.agg #[va, vb, vc], .int .i64 a, .int .i64 f, .int .i64 t] w fun e w' => e = .returned (.tuple #[bV (chooseB (fun i => farB (hds i.toNat) td c f a) (0, 0) ns), .int .i64 0]) ∧ Below w.heap.size w w' := by
  have h8 : a < 128 ∧ f < 128 ∧ t < 128 := by
    obtain ⟨ka, hka⟩ := hna
    obtain ⟨kf, hkf⟩ := hnf
    obtain ⟨kt, hkt⟩ := hnt
    have o1 := g.oks.1 _ (List.mem_of_getElem? hka)
    have o2 := g.oks.1 _ (List.mem_of_getElem? hkf)
    have o3 := g.oks.1 _ (List.mem_of_getElem? hkt)
    simp only [oks, Bool.and_eq_true, decide_eq_true_eq] at o1 o2 o3
    omega
  obtain ⟨ha8, hf8, ht8⟩ := h8
  have HTS : Hid (oks (a : Int) = true ∧ oks (t : Int) = true) := Lib.hid (by simp only [oks, Bool.and_eq_true, decide_eq_true_eq]; omega)
  have HASK := Lib.hid (fun b w2 (g2 : GX w2 va vb vc ns ls) (h : AtL w2 b 0 (dC [(a : Int), f, t])) => ask_ok [(a : Int), f, t] 1 f t c d ns ls va vb vc b w2 g2 h rfl (by omega) (by
    intro x hx
    simp only [List.mem_cons, List.not_mem_nil, or_false] at hx
    rcases hx with rfl | rfl | rfl
    · exact hna
    · exact hnf
    · exact hnt) rfl rfl k0 hk hat)
  have GG := Lib.hid g
  have A8 := Lib.hid ha8
  have F8 := Lib.hid hf8
  have T8 := Lib.hid ht8
  have TT := Lib.hid ht
  have TH := Lib.hid hh
  clear hh
  obtain ⟨z, hz⟩ : ∃ z, z = w.heap.size := ⟨_, rfl⟩
  have b1 : Below w.heap.size w ((((w.alloc (.cells #[va, vb, vc] 33)).alloc (.cells #[.int .i64 a] 3)).alloc (.cells #[.int .i64 f] 3)).alloc (.cells #[.int .u64 0, .int .u64 0] 25)) := ((((Below.refl _ _).alloc (Nat.le_refl _) _).alloc (by simp) _).alloc (by simp; omega) _).alloc (by simp; omega) _
  have k4 : ((((w.alloc (.cells #[va, vb, vc] 33)).alloc (.cells #[.int .i64 a] 3)).alloc (.cells #[.int .i64 f] 3)).alloc (.cells #[.int .u64 0, .int .u64 0] 25)).heap[z]? = some (.cells #[va, vb, vc] 33 (0, 0)) := heap_keep ((Below.refl _ _).alloc (Nat.le_refl _) _) (heap_keep ((Below.refl _ _).alloc (Nat.le_refl _) _) (heap_keep ((Below.refl _ _).alloc (Nat.le_refl _) _) (heap_at hz)))
  have k5 : ((((w.alloc (.cells #[va, vb, vc] 33)).alloc (.cells #[.int .i64 a] 3)).alloc (.cells #[.int .i64 f] 3)).alloc (.cells #[.int .u64 0, .int .u64 0] 25)).heap[z + 1]? = some (.cells #[.int .i64 a] 3 (0, 0)) := heap_keep ((Below.refl _ _).alloc (Nat.le_refl _) _) (heap_keep ((Below.refl _ _).alloc (Nat.le_refl _) _) (heap_at (by rw [hz]; simp)))
  have k6 : ((((w.alloc (.cells #[va, vb, vc] 33)).alloc (.cells #[.int .i64 a] 3)).alloc (.cells #[.int .i64 f] 3)).alloc (.cells #[.int .u64 0, .int .u64 0] 25)).heap[z + 1 + 1]? = some (.cells #[.int .i64 f] 3 (0, 0)) := heap_keep ((Below.refl _ _).alloc (Nat.le_refl _) _) (heap_at (by rw [hz]; simp))
  have k8 : ((((w.alloc (.cells #[va, vb, vc] 33)).alloc (.cells #[.int .i64 a] 3)).alloc (.cells #[.int .i64 f] 3)).alloc (.cells #[.int .u64 0, .int .u64 0] 25)).heap[z + 1 + 1 + 1]? = some (.cells (bCs (0, 0)) 25 (0, 0)) := heap_at (by rw [hz]; simp)
  have HZ := Lib.hid hz
  clear hna hnf hnt hk hat g ht ha8 hf8 ht8
  go_enter Try.func19, Try.ntmps19
  have B1 := Lib.hid b1
  have K4 := Lib.hid k4
  have K5 := Lib.hid k5
  have K6 := Lib.hid k6
  have K8 := Lib.hid k8
  clear b1 k4 k5 k6 k8
  go_wp2_with (first | (refine wpList_loadL rfl 33 (.tmp 4) rfl w.heap.size 0 (.agg #[va, vb, vc]) rfl (run_loadL (cs := [va, vb, vc]) isAgg33 size33 rfl (AtL_heap (by rw [← HZ.out]; exact K4.out))) ?_))
  rw [← hz]
  clear hz
  have hS : ((((w.alloc (.cells #[va, vb, vc] 33)).alloc (.cells #[.int .i64 a] 3)).alloc (.cells #[.int .i64 f] 3)).alloc (.cells #[.int .u64 0, .int .u64 0] 25)).heap.size = z + 1 + 1 + 1 + 1 := by rw [HZ.out]; simp
  generalize ((((w.alloc (.cells #[va, vb, vc] 33)).alloc (.cells #[.int .i64 a] 3)).alloc (.cells #[.int .i64 f] 3)).alloc (.cells #[.int .u64 0, .int .u64 0] 25)) = wa at *
  have b2 : Below wa.heap.size wa (wa.alloc (.cells #[.int .i64 a, .int .i64 f, .int .i64 t] 3)) := (Below.refl _ _).alloc (Nat.le_refl _) _
  with_reducible refine (HASK.out _ _ (GG.out.below (bthen B1.out b2)) (AtL_heap (t := 3) (heap_at hS.symm))).mono ?_
  rintro e w1 ⟨rfl, hb1⟩
  have C1 := bthen b2 hb1
  have B2 := Lib.hid (bthen B1.out C1)
  have K14 := Lib.hid (heap_keep C1 K4.out)
  have K15 := Lib.hid (heap_keep C1 K5.out)
  have K16 := Lib.hid (heap_keep C1 K6.out)
  have K18 := Lib.hid (heap_keep C1 K8.out)
  clear b2 hb1 C1 K4 K5 K6 K8 B1 HASK
  go_wp2_with (first | (refine wpList_storeN rfl 43 (.tmp 10) (.tmp 21) rfl rfl w1.heap.size #[.int .i64 f, .int .i64 t, .int .i64 c, .int .i64 d] rfl rfl 43 _ (heap_at rfl) info43s rfl (by simp [Value.oneCell']) ?_; intro w2 hz2 hb2 hn2 hs2; have b3 := below_storeA hb2; have ZL := Lib.hid hz2; have B3 := Lib.hid (bthen B2.out b3); have K24 := Lib.hid (heap_keep b3 K14.out); have K25 := Lib.hid (heap_keep b3 K15.out); have K26 := Lib.hid (heap_keep b3 K16.out); have K28 := Lib.hid (heap_keep b3 K18.out); clear hz2 hb2 hn2 hs2 b3) | (refine wpList_loadL rfl 33 (.tmp 4) rfl z 0 (.agg #[va, vb, vc]) rfl (run_loadL (cs := [va, vb, vc]) isAgg33 size33 rfl (AtL_heap K24.out)) ?_))
  obtain ⟨gl, hgl⟩ : ∃ gl, gl = w1.heap.size := ⟨_, rfl⟩
  rw [← hgl] at ZL
  rw [← hgl]
  clear hgl K14 K15 K16 K18 B2
  with_reducible refine (GG.out.below B3.out).of.mono ?_
  rintro e w3 ⟨⟨V, vs0, rfl, hV, hvw⟩, hb3⟩
  have b4 : Below w3.heap.size w3 (w3.alloc (.cells #[.pointer (some ⟨V, 0, none⟩)] 64)) := (Below.refl _ _).alloc (Nat.le_refl _) _
  have C3 := bthen hb3 b4
  have B4 := Lib.hid (bthen B3.out hb3)
  have K34 := Lib.hid (heap_keep hb3 K24.out)
  have K35 := Lib.hid (heap_keep hb3 K25.out)
  have K36 := Lib.hid (heap_keep hb3 K26.out)
  have K38 := Lib.hid (heap_keep hb3 K28.out)
  have ZL3 := Lib.hid (heap_keep hb3 ZL.out)
  have VW3 := Lib.hid hvw
  clear b4 C3 hb3 hvw hV ZL K24 K25 K26 K28 B3
  have HT2 : Hid (∀ w5, Below w3.heap.size w3 w5 → Calls Try.prog 47 #[.pointer (some ⟨V, 0, none⟩), .int .i64 t] w5 fun e w' => (∃ v, e = .returned v ∧ Trv t td v w') ∧ Below w5.heap.size w5 w') := Lib.hid (fun w5 h5 => (Tree_okS vs0 (viewL ls) (t : Int) td V w5 (VW3.out.below h5) HTS.out.2 TT.out (GG.out.small)).mono fun e w' ⟨⟨gD, vP, vH, h1, h2, h3, h4⟩, hb⟩ => ⟨⟨_, h1, gD, vP, vH, rfl, h3, h4⟩, hb⟩)
  go_wp2_with fail
  obtain ⟨gv, hgv⟩ : ∃ gv, gv = w3.heap.size := ⟨_, rfl⟩
  have b5 : Below w3.heap.size w3 (w3.alloc (.cells #[.pointer (some ⟨V, 0, none⟩)] 64)) := (Below.refl _ _).alloc (Nat.le_refl _) _
  have kv : (w3.alloc (.cells #[.pointer (some ⟨V, 0, none⟩)] 64)).heap[gv]? = some (.cells #[.pointer (some ⟨V, 0, none⟩)] 64 (0, 0)) := heap_at hgv
  rw [← hgv]
  clear hgv hS
  generalize (w3.alloc (.cells #[.pointer (some ⟨V, 0, none⟩)] 64)) = w4 at *
  have B5 := Lib.hid (bthen B4.out b5)
  have K44 := Lib.hid (heap_keep b5 K34.out)
  have K45 := Lib.hid (heap_keep b5 K35.out)
  have K46 := Lib.hid (heap_keep b5 K36.out)
  have K48 := Lib.hid (heap_keep b5 K38.out)
  have ZL4 := Lib.hid (heap_keep b5 ZL3.out)
  have KV4 := Lib.hid kv
  have VW4 := Lib.hid (VW3.out.below b5)
  have HSM := Lib.hid (GG.out.small)
  have HT4 : Hid (∀ w5, Below w4.heap.size w4 w5 → Calls Try.prog 47 #[.pointer (some ⟨V, 0, none⟩), .int .i64 t] w5 fun e w' => (∃ v, e = .returned v ∧ Trv t td v w') ∧ Below w5.heap.size w5 w') := Lib.hid fun w5 h5 => HT2.out w5 (bthen b5 h5)
  clear HT2
  clear b5 kv K34 K35 K36 K38 ZL3 VW3 B4
  with_reducible refine (HT4.out _ (Below.refl _ _)).mono ?_
  rintro e w5 ⟨⟨v, rfl, gT, vPT, vHT, rfl, aT, lT, oT⟩, C5⟩
  have BB5 := Lib.hid C5
  have AT5 := Lib.hid aT
  have LT := Lib.hid lT
  have OT := Lib.hid oT
  clear C5 aT lT oT HT4
  go_wp2_with (first | (refine wpList_storeN rfl 99 (.tmp 13) (.tmp 31) rfl rfl w5.heap.size #[.int .i64 t, .slice (some ⟨gT, 0, none⟩) 128 128, vPT, vHT] rfl rfl 99 _ (heap_at rfl) info99s' rfl (by simp [Value.oneCell']; exact ⟨OT.out.1, OT.out.2⟩) ?_; intro w7 hz hb hn hs; have b7 := below_storeA hb; have Z7 := Lib.hid hz; have BB7 := Lib.hid (bthen BB5.out b7); have AT7 := Lib.hid (AT5.out.below b7); clear hz hb hn hs b7) | (refine wpList_loadL rfl 33 (.tmp 4) rfl z 0 (.agg #[va, vb, vc]) rfl (run_loadL (cs := [va, vb, vc]) isAgg33 size33 rfl (AtL_heap (heap_keep BB7.out K44.out))) ?_))
  obtain ⟨g7, hg7⟩ : ∃ g7, g7 = w5.heap.size := ⟨_, rfl⟩
  rw [← hg7] at Z7
  rw [← hg7]
  clear hg7
  have BW := Lib.hid (bthen B5.out BB7.out)
  with_reducible refine (choose50_ok _ _ _ _ _ (fun i => farB (hds i.toNat) td c f a) ns ls va vb vc w7 (GG.out.below BW.out) (fun x hx w8 h8 => ?_)).mono ?_
  · obtain ⟨n, hn⟩ : ∃ n : Nat, x.i = (n : Int) := ⟨x.i.toNat, by have := GG.out.oks.1 x hx; simp only [oks, Bool.and_eq_true, decide_eq_true_eq] at this; omega⟩
    have hn8 : n < 128 := by have := GG.out.oks.1 x hx; simp only [oks, Bool.and_eq_true, decide_eq_true_eq] at this; omega
    have htn := TH.out n ⟨x, hx, hn⟩
    rw [hn, Int.toNat_natCast]
    have BB8 := bthen BB7.out h8
    exact far1_ok g7 gT gv V gl (z + 1) (z + 1 + 1) (hds n) td vs0 (viewL ls) f t a c d n w8 htn HSM.out (bcell h8 (by rw [cell_of_row _ _ 1 _ _ _ Z7.out]; rfl)) (AT7.out.below h8) LT.out
      (by rw [cell_of_row _ _ 0 _ _ _ (heap_keep BB8 KV4.out)]; rfl) (VW4.out.below BB8) (AtL_heap (heap_keep BB8 ZL4.out)) (by rw [cell_of_row _ _ 0 _ _ _ (heap_keep BB8 K45.out)]; rfl) (by rw [cell_of_row _ _ 0 _ _ _ (heap_keep BB8 K46.out)]; rfl) hn8 F8.out T8.out A8.out
  rintro e w8 ⟨rfl, hb8⟩
  obtain ⟨S, hS⟩ : ∃ S, S = chooseB (fun i => farB (hds i.toNat) td c f a) (0, 0) ns := ⟨_, rfl⟩
  rw [← hS]
  have HS := Lib.hid hS
  have K88 := Lib.hid (heap_keep (bthen BB7.out hb8) K48.out)
  have B8 := Lib.hid (bthen BW.out hb8)
  clear hb8 hS
  unfold bV
  go_wp2_with (first | (refine wpList_storeN rfl 25 (.tmp 8) (.tmp 34) rfl rfl (z + 1 + 1 + 1) (bCs S) rfl rfl 25 _ K88.out info25s rfl (by simp [Value.oneCell', bCs]) ?_; intro w9 hz9 hb9 hn9 hs9; have Z9 := Lib.hid hz9; have D9 := Lib.hid (B8.out.trans (hb9 _ (by have := HZ.out; omega))); clear hz9 hb9 hn9 hs9))
  refine bodyPost_ret (results_cell_tmp1 rfl rfl (ldB Z9.out)) rfl ?_
  exact ⟨by rw [HS.out]; rfl, D9.out⟩

set_option maxRecDepth 100000 in
set_option maxHeartbeats 16000000 in
theorem Near_ok (a f t : Nat) (c d : Int) (k0 : Nat) (hd td : List Int) (ns : List Nd) (ls : List Lk) (va vb vc : Value) (w : World) (g : GX w va vb vc ns ls)
    (hna : ∃ k : Nat, ns[k]? = some ⟨(a : Int)⟩) (hnf : ∃ k : Nat, ns[k]? = some ⟨(f : Int)⟩) (hnt : ∃ k : Nat, ns[k]? = some ⟨(t : Int)⟩)
    (hk : ls[k0]? = some ⟨f, t, c, d⟩) (hat : At (fun x => cmpL x ⟨f, t, 0, 0⟩) ls k0 true) (hh : treeP (viewL ls) (a : Int) = some hd) (ht : treeP (viewL ls) (t : Int) = some td) :
    Calls Try.prog 18 #[.agg #[va, vb, vc], .int .i64 a, .int .i64 f, .int .i64 t] w fun e w' => e = .returned (.tuple #[bV (chooseB (fun i => nearB hd td c f i.toNat) (0, 0) ns), .int .i64 0]) ∧ Below w.heap.size w w' := by
  have h8 : a < 128 ∧ f < 128 ∧ t < 128 := by
    obtain ⟨ka, hka⟩ := hna
    obtain ⟨kf, hkf⟩ := hnf
    obtain ⟨kt, hkt⟩ := hnt
    have o1 := g.oks.1 _ (List.mem_of_getElem? hka)
    have o2 := g.oks.1 _ (List.mem_of_getElem? hkf)
    have o3 := g.oks.1 _ (List.mem_of_getElem? hkt)
    simp only [oks, Bool.and_eq_true, decide_eq_true_eq] at o1 o2 o3
    omega
  obtain ⟨ha8, hf8, ht8⟩ := h8
  have HTS : Hid (oks (a : Int) = true ∧ oks (t : Int) = true) := Lib.hid (by simp only [oks, Bool.and_eq_true, decide_eq_true_eq]; omega)
  have HASK := Lib.hid (fun b w2 (g2 : GX w2 va vb vc ns ls) (h : AtL w2 b 0 (dC [(a : Int), f, t])) => ask_ok [(a : Int), f, t] 1 f t c d ns ls va vb vc b w2 g2 h rfl (by omega) (by
    intro x hx
    simp only [List.mem_cons, List.not_mem_nil, or_false] at hx
    rcases hx with rfl | rfl | rfl
    · exact hna
    · exact hnf
    · exact hnt) rfl rfl k0 hk hat)
  have GG := Lib.hid g
  have A8 := Lib.hid ha8
  have F8 := Lib.hid hf8
  have T8 := Lib.hid ht8
  have TT := Lib.hid ht
  have TH := Lib.hid hh
  clear hh
  obtain ⟨z, hz⟩ : ∃ z, z = w.heap.size := ⟨_, rfl⟩
  have b1 : Below w.heap.size w ((((w.alloc (.cells #[va, vb, vc] 33)).alloc (.cells #[.int .i64 a] 3)).alloc (.cells #[.int .i64 f] 3)).alloc (.cells #[.int .u64 0, .int .u64 0] 25)) := ((((Below.refl _ _).alloc (Nat.le_refl _) _).alloc (by simp) _).alloc (by simp; omega) _).alloc (by simp; omega) _
  have k4 : ((((w.alloc (.cells #[va, vb, vc] 33)).alloc (.cells #[.int .i64 a] 3)).alloc (.cells #[.int .i64 f] 3)).alloc (.cells #[.int .u64 0, .int .u64 0] 25)).heap[z]? = some (.cells #[va, vb, vc] 33 (0, 0)) := heap_keep ((Below.refl _ _).alloc (Nat.le_refl _) _) (heap_keep ((Below.refl _ _).alloc (Nat.le_refl _) _) (heap_keep ((Below.refl _ _).alloc (Nat.le_refl _) _) (heap_at hz)))
  have k5 : ((((w.alloc (.cells #[va, vb, vc] 33)).alloc (.cells #[.int .i64 a] 3)).alloc (.cells #[.int .i64 f] 3)).alloc (.cells #[.int .u64 0, .int .u64 0] 25)).heap[z + 1]? = some (.cells #[.int .i64 a] 3 (0, 0)) := heap_keep ((Below.refl _ _).alloc (Nat.le_refl _) _) (heap_keep ((Below.refl _ _).alloc (Nat.le_refl _) _) (heap_at (by rw [hz]; simp)))
  have k6 : ((((w.alloc (.cells #[va, vb, vc] 33)).alloc (.cells #[.int .i64 a] 3)).alloc (.cells #[.int .i64 f] 3)).alloc (.cells #[.int .u64 0, .int .u64 0] 25)).heap[z + 1 + 1]? = some (.cells #[.int .i64 f] 3 (0, 0)) := heap_keep ((Below.refl _ _).alloc (Nat.le_refl _) _) (heap_at (by rw [hz]; simp))
  have k8 : ((((w.alloc (.cells #[va, vb, vc] 33)).alloc (.cells #[.int .i64 a] 3)).alloc (.cells #[.int .i64 f] 3)).alloc (.cells #[.int .u64 0, .int .u64 0] 25)).heap[z + 1 + 1 + 1]? = some (.cells (bCs (0, 0)) 25 (0, 0)) := heap_at (by rw [hz]; simp)
  have HZ := Lib.hid hz
  clear hna hnf hnt hk hat g ht ha8 hf8 ht8
  go_enter Try.func18, Try.ntmps18
  have B1 := Lib.hid b1
  have K4 := Lib.hid k4
  have K5 := Lib.hid k5
  have K6 := Lib.hid k6
  have K8 := Lib.hid k8
  clear b1 k4 k5 k6 k8
  go_wp2_with (first | (refine wpList_loadL rfl 33 (.tmp 4) rfl w.heap.size 0 (.agg #[va, vb, vc]) rfl (run_loadL (cs := [va, vb, vc]) isAgg33 size33 rfl (AtL_heap (by rw [← HZ.out]; exact K4.out))) ?_))
  rw [← hz]
  clear hz
  have hS : ((((w.alloc (.cells #[va, vb, vc] 33)).alloc (.cells #[.int .i64 a] 3)).alloc (.cells #[.int .i64 f] 3)).alloc (.cells #[.int .u64 0, .int .u64 0] 25)).heap.size = z + 1 + 1 + 1 + 1 := by rw [HZ.out]; simp
  generalize ((((w.alloc (.cells #[va, vb, vc] 33)).alloc (.cells #[.int .i64 a] 3)).alloc (.cells #[.int .i64 f] 3)).alloc (.cells #[.int .u64 0, .int .u64 0] 25)) = wa at *
  have b2 : Below wa.heap.size wa (wa.alloc (.cells #[.int .i64 a, .int .i64 f, .int .i64 t] 3)) := (Below.refl _ _).alloc (Nat.le_refl _) _
  with_reducible refine (HASK.out _ _ (GG.out.below (bthen B1.out b2)) (AtL_heap (t := 3) (heap_at hS.symm))).mono ?_
  rintro e w1 ⟨rfl, hb1⟩
  have C1 := bthen b2 hb1
  have B2 := Lib.hid (bthen B1.out C1)
  have K14 := Lib.hid (heap_keep C1 K4.out)
  have K15 := Lib.hid (heap_keep C1 K5.out)
  have K16 := Lib.hid (heap_keep C1 K6.out)
  have K18 := Lib.hid (heap_keep C1 K8.out)
  clear b2 hb1 C1 K4 K5 K6 K8 B1 HASK
  go_wp2_with (first | (refine wpList_storeN rfl 43 (.tmp 10) (.tmp 22) rfl rfl w1.heap.size #[.int .i64 f, .int .i64 t, .int .i64 c, .int .i64 d] rfl rfl 43 _ (heap_at rfl) info43s rfl (by simp [Value.oneCell']) ?_; intro w2 hz2 hb2 hn2 hs2; have b3 := below_storeA hb2; have ZL := Lib.hid hz2; have B3 := Lib.hid (bthen B2.out b3); have K24 := Lib.hid (heap_keep b3 K14.out); have K25 := Lib.hid (heap_keep b3 K15.out); have K26 := Lib.hid (heap_keep b3 K16.out); have K28 := Lib.hid (heap_keep b3 K18.out); clear hz2 hb2 hn2 hs2 b3) | (refine wpList_loadL rfl 33 (.tmp 4) rfl z 0 (.agg #[va, vb, vc]) rfl (run_loadL (cs := [va, vb, vc]) isAgg33 size33 rfl (AtL_heap K24.out)) ?_))
  obtain ⟨gl, hgl⟩ : ∃ gl, gl = w1.heap.size := ⟨_, rfl⟩
  rw [← hgl] at ZL
  rw [← hgl]
  clear hgl K14 K15 K16 K18 B2
  with_reducible refine (GG.out.below B3.out).of.mono ?_
  rintro e w3 ⟨⟨V, vs0, rfl, hV, hvw⟩, hb3⟩
  have b4 : Below w3.heap.size w3 (w3.alloc (.cells #[.pointer (some ⟨V, 0, none⟩)] 64)) := (Below.refl _ _).alloc (Nat.le_refl _) _
  have C3 := bthen hb3 b4
  have B4 := Lib.hid (bthen B3.out hb3)
  have K34 := Lib.hid (heap_keep hb3 K24.out)
  have K35 := Lib.hid (heap_keep hb3 K25.out)
  have K36 := Lib.hid (heap_keep hb3 K26.out)
  have K38 := Lib.hid (heap_keep hb3 K28.out)
  have ZL3 := Lib.hid (heap_keep hb3 ZL.out)
  have VW3 := Lib.hid hvw
  clear b4 C3 hb3 hvw hV ZL K24 K25 K26 K28 B3
  go_wp2_with fail
  obtain ⟨gv, hgv⟩ : ∃ gv, gv = w3.heap.size := ⟨_, rfl⟩
  have b5 : Below w3.heap.size w3 (w3.alloc (.cells #[.pointer (some ⟨V, 0, none⟩)] 64)) := (Below.refl _ _).alloc (Nat.le_refl _) _
  have kv : (w3.alloc (.cells #[.pointer (some ⟨V, 0, none⟩)] 64)).heap[gv]? = some (.cells #[.pointer (some ⟨V, 0, none⟩)] 64 (0, 0)) := heap_at hgv
  rw [← hgv]
  clear hgv hS
  generalize (w3.alloc (.cells #[.pointer (some ⟨V, 0, none⟩)] 64)) = w4 at *
  have B5 := Lib.hid (bthen B4.out b5)
  have K44 := Lib.hid (heap_keep b5 K34.out)
  have K45 := Lib.hid (heap_keep b5 K35.out)
  have K46 := Lib.hid (heap_keep b5 K36.out)
  have K48 := Lib.hid (heap_keep b5 K38.out)
  have ZL4 := Lib.hid (heap_keep b5 ZL3.out)
  have KV4 := Lib.hid kv
  have VW4 := Lib.hid (VW3.out.below b5)
  have HSM := Lib.hid (GG.out.small)
  clear b5 kv K34 K35 K36 K38 ZL3 VW3 B4
  have HC : ∀ w5, Below w4.heap.size w4 w5 → w5.cell? ⟨gv, 0, none⟩ = some (.pointer (some ⟨V, 0, none⟩)) ∧ w5.cell? ⟨z + 1, 0, none⟩ = some (.int .i64 a) := fun w5 h5 => ⟨bcell h5 (by rw [cell_of_row _ _ 0 _ _ _ KV4.out]; rfl), bcell h5 (by rw [cell_of_row _ _ 0 _ _ _ K45.out]; rfl)⟩
  have HT1 : Hid (∀ w5, Below w4.heap.size w4 w5 → Calls Try.prog 47 #[.pointer (some ⟨V, 0, none⟩), .int .i64 a] w5 fun e w' => (∃ v, e = .returned v ∧ Trv a hd v w') ∧ Below w5.heap.size w5 w') := Lib.hid (fun w5 h5 => (Tree_okS vs0 (viewL ls) (a : Int) hd V w5 (VW4.out.below h5) HTS.out.1 TH.out HSM.out).mono fun e w' ⟨⟨gD, vP, vH, h1, h2, h3, h4⟩, hb⟩ => ⟨⟨_, h1, gD, vP, vH, rfl, h3, h4⟩, hb⟩)
  have HT2 : Hid (∀ w5, Below w4.heap.size w4 w5 → Calls Try.prog 47 #[.pointer (some ⟨V, 0, none⟩), .int .i64 t] w5 fun e w' => (∃ v, e = .returned v ∧ Trv t td v w') ∧ Below w5.heap.size w5 w') := Lib.hid (fun w5 h5 => (Tree_okS vs0 (viewL ls) (t : Int) td V w5 (VW4.out.below h5) HTS.out.2 TT.out HSM.out).mono fun e w' ⟨⟨gD, vP, vH, h1, h2, h3, h4⟩, hb⟩ => ⟨⟨_, h1, gD, vP, vH, rfl, h3, h4⟩, hb⟩)
  refine Og.Joint.walk_lit 8 [[],[],[0,1],[],[],[3,4,2,0,1],[],[],[6,2,5,0,1,7,3,4],[7,5,8,0,1,2,3,4,6]] (CT w4) (fun w1 w2 => Below w1.heap.size w1 w2) (by kernel_rfl) (by kernel_rfl) (by kernel_rfl) (CT.start bdrew) ?_
  simp only [List.take_succ_cons, List.take_zero, List.drop_succ_cons, List.drop_zero]
  iterate 2 (refine Og.Joint.step_pure (fun p vs v w h => h.other (by decide) (by decide) (Below.refl _ _)) (fun _ => Below.refl _ _) ?_; apply Exists.intro; refine And.intro ?_ ?_; focus (intro p vs w2 hC hk; have hm := HC w2 hC.1; refine Og.OptB.mk ?_; revert hk; simp only [Og.KS, Og.K0, Og.Is, List.getD_cons_zero, List.getD_cons_succ, List.getD_nil, List.contains_cons, List.contains_nil, Nat.reduceAdd, Nat.reduceBEq, Bool.or_false, Bool.false_or, Bool.or_true, Bool.true_or, Bool.false_eq_true, false_implies, true_implies, true_and, and_true, forall_const]; intros; go_simp; rfl))
  refine Og.Joint.step_any (Trv a hd) (fun v w w2 hr h => h.keep hr) ?_ ?_; focus (intro p vs w2 hp hC hk; have hcl := HT1.out w2 hC.1; refine Og.OptB.mk ?_; revert hk; simp only [Og.KS, Og.K0, Og.Is, List.getD_cons_zero, List.getD_cons_succ, List.getD_nil, List.contains_cons, List.contains_nil, Nat.reduceAdd, Nat.reduceBEq, Bool.or_false, Bool.false_or, Bool.or_true, Bool.true_or, Bool.false_eq_true, false_implies, true_implies, true_and, and_true, forall_const]; intro hk; go_simp; with_reducible refine hcl.mono ?_; rintro e w3 ⟨⟨v, rfl, ht⟩, hb⟩; exact Og.RetV.mk ⟨hC.other (by decide) (by decide) hb, hb, ht⟩)
  iterate 2 (refine Og.Joint.step_pure (fun p vs v w h => h.other (by decide) (by decide) (Below.refl _ _)) (fun _ => Below.refl _ _) ?_; apply Exists.intro; refine And.intro ?_ ?_; focus (intro p vs w2 hC hk; have hm := HC w2 hC.1; refine Og.OptB.mk ?_; revert hk; simp only [Og.KS, Og.K0, Og.Is, List.getD_cons_zero, List.getD_cons_succ, List.getD_nil, List.contains_cons, List.contains_nil, Nat.reduceAdd, Nat.reduceBEq, Bool.or_false, Bool.false_or, Bool.or_true, Bool.true_or, Bool.false_eq_true, false_implies, true_implies, true_and, and_true, forall_const]; intros; go_simp; rfl))
  refine Og.Joint.step_any (Trv t td) (fun v w w2 hr h => h.keep hr) ?_ ?_; focus (intro p vs w2 hp hC hk; have hcl := HT2.out w2 hC.1; refine Og.OptB.mk ?_; revert hk; simp only [Og.KS, Og.K0, Og.Is, List.getD_cons_zero, List.getD_cons_succ, List.getD_nil, List.contains_cons, List.contains_nil, Nat.reduceAdd, Nat.reduceBEq, Bool.or_false, Bool.false_or, Bool.or_true, Bool.true_or, Bool.false_eq_true, false_implies, true_implies, true_and, and_true, forall_const]; intro hk; go_simp; with_reducible refine hcl.mono ?_; rintro e w3 ⟨⟨v, rfl, ht⟩, hb⟩; exact Og.RetV.mk ⟨hC.other (by decide) (by decide) hb, hb, ht⟩)
  refine Og.Joint.step_any (fun _ _ => True) (fun _ _ _ _ _ => trivial) ?_ ?_; focus (intro p vs w2 hp hC hk; refine Og.OptB.mk ?_; go_simp; exact ⟨hC.a6, (Below.refl _ _).alloc (Nat.le_refl _) _⟩)
  refine Og.Joint.step_any (fun _ _ => True) (fun _ _ _ _ _ => trivial) ?_ ?_; focus (intro p vs w2 hp hC hk; refine Og.OptB.mk ?_; go_simp; exact ⟨hC.a7, (Below.refl _ _).alloc (Nat.le_refl _) _⟩)
  intro p vs w5 hp hC hk
  obtain ⟨g6, e6, hg6, k6⟩ := hC.2.1 (hp 6 (by decide))
  obtain ⟨g7, e7, hg7, k7⟩ := hC.2.2.1 (hp 7 (by decide))
  have hne : g6 ≠ g7 := fun e => hC.2.2.2 (hp 6 (by decide)) (hp 7 (by decide)) (by rw [e6, e7, e])
  simp only [Og.KS, Og.K0, Og.Is, List.getD_cons_zero, List.getD_cons_succ, List.getD_nil, List.contains_cons, List.contains_nil, Nat.reduceAdd, Nat.reduceBEq, Bool.or_false, Bool.false_or, Bool.or_true, Bool.true_or, Bool.false_eq_true, false_implies, true_implies, true_and, and_true, forall_const] at hk
  obtain ⟨⟨gT, vPT, vHT, eT, aT, lT, oT⟩, h4, h3, ⟨gH, vPH, vHH, eH, aH, lH, oH⟩, h1, h0⟩ := hk
  simp only [h0, h1, h3, h4, eT, eH, e6, e7, Act.put, List.setIfInBounds_toArray, List.set_cons_zero, List.set_cons_succ]
  have C5 := hC.1
  have BB5 := Lib.hid C5
  have NT6 := Lib.hid (dC_ne aT lT k6 (by intro z h; cases h))
  have NT7 := Lib.hid (dC_ne aT lT k7 (by intro z h; cases h))
  have NH6 := Lib.hid (dC_ne aH lH k6 (by intro z h; cases h))
  have NH7 := Lib.hid (dC_ne aH lH k7 (by intro z h; cases h))
  have AT5 := Lib.hid aT
  have AH5 := Lib.hid aH
  have LT := Lib.hid lT
  have LH := Lib.hid lH
  have OT := Lib.hid oT
  have OH := Lib.hid oH
  have K6' := Lib.hid k6
  have K7' := Lib.hid k7
  have NE := Lib.hid hne
  have G6 := Lib.hid hg6
  have G7 := Lib.hid hg7
  clear hp hC h0 h1 h3 h4 eT eH e6 e7 C5 aT aH lT lH oT oH k6 k7 hne hg6 hg7 HC HT1 HT2
  go_wp2_with (first | (refine wpList_storeN rfl 99 (.tmp 13) (.tmp 32) rfl rfl g6 #[.int .i64 a, .slice (some ⟨gH, 0, none⟩) 128 128, vPH, vHH] rfl rfl 99 _ K6'.out info99s' rfl (by simp [Value.oneCell']; exact ⟨OH.out.1, OH.out.2⟩) ?_; intro w6 hz hb hn hs; have Z6 := Lib.hid hz; have BB6 := Lib.hid (BB5.out.trans (hb _ G6.out)); have K76 := Lib.hid ((hn g7 (fun e => NE.out e.symm)).trans K7'.out); have AT6 := Lib.hid (AT5.out.other (hn gT NT6.out)); have AH6 := Lib.hid (AH5.out.other (hn gH NH6.out)); clear hz hb hn hs) | (refine wpList_storeN rfl 99 (.tmp 14) (.tmp 35) rfl rfl g7 #[.int .i64 t, .slice (some ⟨gT, 0, none⟩) 128 128, vPT, vHT] rfl rfl 99 _ K76.out info99s' rfl (by simp [Value.oneCell']; exact ⟨OT.out.1, OT.out.2⟩) ?_; intro w7 hz hb hn hs; have Z7 := Lib.hid hz; have BB7 := Lib.hid (BB6.out.trans (hb _ G7.out)); have Z67 := Lib.hid ((hn g6 NE.out).trans Z6.out); have AT7 := Lib.hid (AT6.out.other (hn gT NT7.out)); have AH7 := Lib.hid (AH6.out.other (hn gH NH7.out)); clear hz hb hn hs) | (refine wpList_loadL rfl 33 (.tmp 4) rfl z 0 (.agg #[va, vb, vc]) rfl (run_loadL (cs := [va, vb, vc]) isAgg33 size33 rfl (AtL_heap (heap_keep BB7.out K44.out))) ?_))
  have BW := Lib.hid (bthen B5.out BB7.out)
  with_reducible refine (choose48_ok _ _ _ _ _ _ (fun i => nearB hd td c f i.toNat) ns ls va vb vc w7 (GG.out.below BW.out) (fun x hx w8 h8 => ?_)).mono ?_
  · obtain ⟨n, hn⟩ : ∃ n : Nat, x.i = (n : Int) := ⟨x.i.toNat, by have := GG.out.oks.1 x hx; simp only [oks, Bool.and_eq_true, decide_eq_true_eq] at this; omega⟩
    have hn8 : n < 128 := by have := GG.out.oks.1 x hx; simp only [oks, Bool.and_eq_true, decide_eq_true_eq] at this; omega
    rw [hn, Int.toNat_natCast]
    have BB8 := bthen BB7.out h8
    exact near1_ok g6 gH g7 gT gv V gl (z + 1) (z + 1 + 1) hd td vs0 (viewL ls) f t c d a n w8 (bcell h8 (by rw [cell_of_row _ _ 1 _ _ _ Z67.out]; rfl)) (AH7.out.below h8) LH.out (bcell h8 (by rw [cell_of_row _ _ 1 _ _ _ Z7.out]; rfl)) (AT7.out.below h8) LT.out
      (by rw [cell_of_row _ _ 0 _ _ _ (heap_keep BB8 KV4.out)]; rfl) (VW4.out.below BB8) (AtL_heap (heap_keep BB8 ZL4.out)) (by rw [cell_of_row _ _ 0 _ _ _ (heap_keep BB8 K45.out)]; rfl) (by rw [cell_of_row _ _ 0 _ _ _ (heap_keep BB8 K46.out)]; rfl) hn8 F8.out T8.out
  rintro e w8 ⟨rfl, hb8⟩
  obtain ⟨S, hS⟩ : ∃ S, S = chooseB (fun i => nearB hd td c f i.toNat) (0, 0) ns := ⟨_, rfl⟩
  rw [← hS]
  have HS := Lib.hid hS
  have K88 := Lib.hid (heap_keep (bthen BB7.out hb8) K48.out)
  have B8 := Lib.hid (bthen BW.out hb8)
  clear hb8 hS
  unfold bV
  go_wp2_with (first | (refine wpList_storeN rfl 25 (.tmp 8) (.tmp 38) rfl rfl (z + 1 + 1 + 1) (bCs S) rfl rfl 25 _ K88.out info25s rfl (by simp [Value.oneCell', bCs]) ?_; intro w9 hz9 hb9 hn9 hs9; have Z9 := Lib.hid hz9; have D9 := Lib.hid (B8.out.trans (hb9 _ (by have := HZ.out; omega))); clear hz9 hb9 hn9 hs9))
  refine bodyPost_ret (results_cell_tmp1 rfl rfl (ldB Z9.out)) rfl ?_
  exact ⟨by rw [HS.out]; rfl, D9.out⟩

end Go.Proofs.Ytpklcefiabjplaa
