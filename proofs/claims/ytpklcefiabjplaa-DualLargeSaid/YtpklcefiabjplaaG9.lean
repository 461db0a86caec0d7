/- The batches of the law: what each edit does to the graphs it meets. -/
import Derived.Test.YtpklcefiabjplaaG8
namespace Go.Proofs.Ytpklcefiabjplaa
open Go.ChangeShapes Go.WideShapes Go.ChangeAt Go.RowKit
set_option linter.unusedVariables false
set_option linter.unusedSimpArgs false
attribute [local go_sem] Og.Opt Og.OpY

def BdG (G : Gr) : Prop := G.ns.length ≤ 1000000 ∧ G.ls.length ≤ 1000000 ∧ G.ps.length ≤ 1000000
/-- a search's answer -/
structure At {α : Type} (c : α → Int) (xs : List α) (k : Nat) (b : Bool) : Prop where
  mo : Mono c xs
  cu : Cut c xs k
  hi : hitE c xs k = b
theorem GS.hBw {B : Nat} {w : World} {h : Nat} {va vb vc : Value} {ns : List Nd} {ls : List Lk} {ps : List Pn} (g : GS B w h va vb vc ns ls ps) : B ≤ w.heap.size := Nat.le_of_lt (Nat.lt_of_le_of_lt g.hB (Array.getElem?_eq_some_iff.1 g.hh).1)
theorem ok_node (x : Ed) (G : Gr) (k : Nat) (hx : x.k = 1) (hr : rng 0 127 x.a = true) (hl : BdG G) (ha : At (fun y => sg y.i x.a) G.ns k false) : DoOk x G ⟨G.ns.take k ++ (⟨x.a⟩ : Nd) :: G.ns.drop k, G.ls, G.ps⟩ := by
  intro B h va vb vc w g
  have e : (cEd x).toArray = #[.int .i64 1, .int .i64 x.a, .int .i64 x.b, .int .i64 x.c, .int .i64 x.d, .complex .f64 0 0, .int .u32 x.p.a, .int .i64 x.p.l, .bool false] := by simp [cEd, hx]
  rw [e]
  refine (do_node1 G.ns G.ls G.ps x B h va vb vc w g hl hr k ha.cu.1 (Lib.hid (fun w2 hb => node_at g x.a k false hl.1 ha.mo ha.cu ha.hi w2 hb))).mono ?_
  rintro e w' ⟨rfl, ⟨v', g'⟩, hb⟩
  exact ⟨rfl, ⟨_, _, _, g'⟩, hb⟩
theorem ok_link (x : Ed) (G : Gr) (ka kb k : Nat) (hx : x.k = 4) (hr : rng 0 127 x.a = true) (hrb : rng 0 127 x.b = true) (hab : x.a ≠ x.b) (hl : BdG G) (ha : At (fun y => sg y.i x.a) G.ns ka true) (hb : At (fun y => sg y.i x.b) G.ns kb true) (hk : At (fun y => cmpL y ⟨x.a, x.b, 0, 0⟩) G.ls k false) (hc : rng 1 65535 x.c = true) (hd : rng 0 65535 x.d = true) (hf : G.ls.length < 2048) : DoOk x G ⟨G.ns, (G.ls.take k ++ (⟨x.a, x.b, x.c, x.d⟩ : Lk) :: G.ls.drop k), G.ps⟩ := by
  intro B h va vb vc w g
  have e : (cEd x).toArray = #[.int .i64 4, .int .i64 x.a, .int .i64 x.b, .int .i64 x.c, .int .i64 x.d, .complex .f64 0 0, .int .u32 x.p.a, .int .i64 x.p.l, .bool false] := by simp [cEd, hx]
  rw [e]
  refine (do_link4 G.ns G.ls G.ps x B h va vb vc w g hl hr hrb hab ka kb k false (fun r w' => r = .int .i64 0 ∧ (∃ v', GS B w' h va v' vc G.ns (G.ls.take k ++ (⟨x.a, x.b, x.c, x.d⟩ : Lk) :: G.ls.drop k) G.ps) ∧ Below B w w') (Lib.hid (fun w2 hb => node_at g x.a ka true hl.1 ha.mo ha.cu ha.hi w2 hb)) (Lib.hid (fun w2 hb2 => node_at g x.b kb true hl.1 hb.mo hb.cu hb.hi w2 hb2)) (Lib.hid (fun w2 hb2 => link_at g x.a x.b k false hl.2.1 hk.mo hk.cu hk.hi w2 hb2)) (Lib.hid (fun w2 hb2 => (link_add G.ns G.ls G.ps x k B h va vb vc w2 (g.below hb2) hc hd hf hk.cu.1).mono (by
    rintro e w3 ⟨rfl, hg3, hb3⟩
    exact ⟨_, rfl, rfl, hg3, (hb2.mono g.hBw).trans hb3⟩)))).mono ?_
  rintro e w' ⟨r, rfl, rfl, ⟨v', hg⟩, hb⟩
  exact ⟨rfl, ⟨_, _, _, hg⟩, hb⟩
theorem err_link (x : Ed) (G : Gr) (ka kb k : Nat) (hx : x.k = 4) (hr : rng 0 127 x.a = true) (hrb : rng 0 127 x.b = true) (hab : x.a ≠ x.b) (hl : BdG G) (ha : At (fun y => sg y.i x.a) G.ns ka true) (hb : At (fun y => sg y.i x.b) G.ns kb true) (hk : At (fun y => cmpL y ⟨x.a, x.b, 0, 0⟩) G.ls k false) (hc : rng 1 65535 x.c = true) (hd : rng 0 65535 x.d = true) (hf : 2048 ≤ G.ls.length) : DoErr x G 7 := by
  intro B h va vb vc w g
  have e : (cEd x).toArray = #[.int .i64 4, .int .i64 x.a, .int .i64 x.b, .int .i64 x.c, .int .i64 x.d, .complex .f64 0 0, .int .u32 x.p.a, .int .i64 x.p.l, .bool false] := by simp [cEd, hx]
  rw [e]
  refine (do_link4 G.ns G.ls G.ps x B h va vb vc w g hl hr hrb hab ka kb k false (fun r w' => r = .int .i64 7 ∧ GS B w' h va vb vc G.ns G.ls G.ps ∧ Below B w w') (Lib.hid (fun w2 hb => node_at g x.a ka true hl.1 ha.mo ha.cu ha.hi w2 hb)) (Lib.hid (fun w2 hb2 => node_at g x.b kb true hl.1 hb.mo hb.cu hb.hi w2 hb2)) (Lib.hid (fun w2 hb2 => link_at g x.a x.b k false hl.2.1 hk.mo hk.cu hk.hi w2 hb2)) (Lib.hid (fun w2 hb2 => (link_large G.ns G.ls G.ps x k B h va vb vc w2 (g.below hb2) hc hd hf).mono (by
    rintro e w3 ⟨rfl, hb3⟩
    exact ⟨_, rfl, rfl, (g.below hb2).below hb3, (hb2.mono g.hBw).trans (hb3.mono (g.below hb2).hBw)⟩)))).mono ?_
  rintro e w' ⟨r, rfl, rfl, hg, hb⟩
  exact ⟨rfl, ⟨_, _, _, G, hg⟩, hb⟩
theorem ok_unlink (x : Ed) (G : Gr) (ka kb k : Nat) (hx : x.k = 5) (hr : rng 0 127 x.a = true) (hrb : rng 0 127 x.b = true) (hab : x.a ≠ x.b) (hl : BdG G) (ha : At (fun y => sg y.i x.a) G.ns ka true) (hb : At (fun y => sg y.i x.b) G.ns kb true) (hk : At (fun y => cmpL y ⟨x.a, x.b, 0, 0⟩) G.ls k true) (hf : k < G.ls.length) : DoOk x G ⟨G.ns, G.ls.eraseIdx k, G.ps⟩ := by
  intro B h va vb vc w g
  have e : (cEd x).toArray = #[.int .i64 5, .int .i64 x.a, .int .i64 x.b, .int .i64 x.c, .int .i64 x.d, .complex .f64 0 0, .int .u32 x.p.a, .int .i64 x.p.l, .bool false] := by simp [cEd, hx]
  rw [e]
  refine (do_link5 G.ns G.ls G.ps x B h va vb vc w g hl hr hrb hab ka kb k true (fun r w' => r = .int .i64 0 ∧ (∃ v', GS B w' h va v' vc G.ns (G.ls.eraseIdx k) G.ps) ∧ Below B w w') (Lib.hid (fun w2 hb => node_at g x.a ka true hl.1 ha.mo ha.cu ha.hi w2 hb)) (Lib.hid (fun w2 hb2 => node_at g x.b kb true hl.1 hb.mo hb.cu hb.hi w2 hb2)) (Lib.hid (fun w2 hb2 => link_at g x.a x.b k true hl.2.1 hk.mo hk.cu hk.hi w2 hb2)) (Lib.hid (fun w2 hb2 => (link_del G.ns G.ls G.ps x k B h va vb vc w2 (g.below hb2) hf hl.2.1).mono (by
    rintro e w3 ⟨rfl, hg3, hb3⟩
    exact ⟨_, rfl, rfl, hg3, (hb2.mono g.hBw).trans hb3⟩)))).mono ?_
  rintro e w' ⟨r, rfl, rfl, ⟨v', hg⟩, hb⟩
  exact ⟨rfl, ⟨_, _, _, hg⟩, hb⟩
theorem ok_pin (x : Ed) (G : Gr) (ka k : Nat) (hx : x.k = 9) (hr : rng 0 127 x.a = true) (hp : pfS x.p) (hl : BdG G) (ha : At (fun y => sg y.i x.a) G.ns ka true) (hk : At (fun y => cmpN y ⟨x.p, x.a, 0⟩) G.ps k false) (hc : rng 0 65535 x.c = true) (hf : G.ps.length < 1024) : DoOk x G ⟨G.ns, G.ls, (G.ps.take k ++ (⟨x.p, x.a, x.c⟩ : Pn) :: G.ps.drop k)⟩ := by
  intro B h va vb vc w g
  have e : (cEd x).toArray = #[.int .i64 9, .int .i64 x.a, .int .i64 x.b, .int .i64 x.c, .int .i64 x.d, .complex .f64 0 0, .int .u32 x.p.a, .int .i64 x.p.l, .bool false] := by simp [cEd, hx]
  rw [e]
  refine (do_pin9 G.ns G.ls G.ps x B h va vb vc w g hl hr hp ka k false (fun r w' => r = .int .i64 0 ∧ (∃ v', GS B w' h va vb v' G.ns G.ls (G.ps.take k ++ (⟨x.p, x.a, x.c⟩ : Pn) :: G.ps.drop k)) ∧ Below B w w') (Lib.hid (fun w2 hb => node_at g x.a ka true hl.1 ha.mo ha.cu ha.hi w2 hb)) (Lib.hid (fun w2 hb2 => pin_at g x.p x.a k false hl.2.2 hk.mo hk.cu hk.hi w2 hb2)) (Lib.hid (fun w2 hb2 => (pin_add G.ns G.ls G.ps x k B h va vb vc w2 (g.below hb2) hc hf hk.cu.1).mono (by
    rintro e w3 ⟨rfl, hg3, hb3⟩
    exact ⟨_, rfl, rfl, hg3, (hb2.mono g.hBw).trans hb3⟩)))).mono ?_
  rintro e w' ⟨r, rfl, rfl, ⟨v', hg⟩, hb⟩
  exact ⟨rfl, ⟨_, _, _, hg⟩, hb⟩
theorem err_pin (x : Ed) (G : Gr) (ka k : Nat) (hx : x.k = 9) (hr : rng 0 127 x.a = true) (hp : pfS x.p) (hl : BdG G) (ha : At (fun y => sg y.i x.a) G.ns ka true) (hk : At (fun y => cmpN y ⟨x.p, x.a, 0⟩) G.ps k false) (hc : rng 0 65535 x.c = true) (hf : 1024 ≤ G.ps.length) : DoErr x G 7 := by
  intro B h va vb vc w g
  have e : (cEd x).toArray = #[.int .i64 9, .int .i64 x.a, .int .i64 x.b, .int .i64 x.c, .int .i64 x.d, .complex .f64 0 0, .int .u32 x.p.a, .int .i64 x.p.l, .bool false] := by simp [cEd, hx]
  rw [e]
  refine (do_pin9 G.ns G.ls G.ps x B h va vb vc w g hl hr hp ka k false (fun r w' => r = .int .i64 7 ∧ GS B w' h va vb vc G.ns G.ls G.ps ∧ Below B w w') (Lib.hid (fun w2 hb => node_at g x.a ka true hl.1 ha.mo ha.cu ha.hi w2 hb)) (Lib.hid (fun w2 hb2 => pin_at g x.p x.a k false hl.2.2 hk.mo hk.cu hk.hi w2 hb2)) (Lib.hid (fun w2 hb2 => (pin_large G.ns G.ls G.ps x k B h va vb vc w2 (g.below hb2) hc hf).mono (by
    rintro e w3 ⟨rfl, hb3⟩
    exact ⟨_, rfl, rfl, (g.below hb2).below hb3, (hb2.mono g.hBw).trans (hb3.mono (g.below hb2).hBw)⟩)))).mono ?_
  rintro e w' ⟨r, rfl, rfl, hg, hb⟩
  exact ⟨rfl, ⟨_, _, _, G, hg⟩, hb⟩
theorem ok_unpin (x : Ed) (G : Gr) (ka k : Nat) (hx : x.k = 10) (hr : rng 0 127 x.a = true) (hp : pfS x.p) (hl : BdG G) (ha : At (fun y => sg y.i x.a) G.ns ka true) (hk : At (fun y => cmpN y ⟨x.p, x.a, 0⟩) G.ps k true) (hf : k < G.ps.length) : DoOk x G ⟨G.ns, G.ls, G.ps.eraseIdx k⟩ := by
  intro B h va vb vc w g
  have e : (cEd x).toArray = #[.int .i64 10, .int .i64 x.a, .int .i64 x.b, .int .i64 x.c, .int .i64 x.d, .complex .f64 0 0, .int .u32 x.p.a, .int .i64 x.p.l, .bool false] := by simp [cEd, hx]
  rw [e]
  refine (do_pin10 G.ns G.ls G.ps x B h va vb vc w g hl hr hp ka k true (fun r w' => r = .int .i64 0 ∧ (∃ v', GS B w' h va vb v' G.ns G.ls (G.ps.eraseIdx k)) ∧ Below B w w') (Lib.hid (fun w2 hb => node_at g x.a ka true hl.1 ha.mo ha.cu ha.hi w2 hb)) (Lib.hid (fun w2 hb2 => pin_at g x.p x.a k true hl.2.2 hk.mo hk.cu hk.hi w2 hb2)) (Lib.hid (fun w2 hb2 => (pin_del G.ns G.ls G.ps x k B h va vb vc w2 (g.below hb2) hf hl.2.2).mono (by
    rintro e w3 ⟨rfl, hg3, hb3⟩
    exact ⟨_, rfl, rfl, hg3, (hb2.mono g.hBw).trans hb3⟩)))).mono ?_
  rintro e w' ⟨r, rfl, rfl, ⟨v', hg⟩, hb⟩
  exact ⟨rfl, ⟨_, _, _, hg⟩, hb⟩

theorem At.all_lt {α : Type} {c : α → Int} {xs : List α} (h : ∀ (i : Nat) x, xs[i]? = some x → c x < 0) : At c xs xs.length false where
  mo := fun i j x y hx _ _ _ => h i x hx
  cu := ⟨Nat.le_refl _, fun i x hx _ => h i x hx, fun i x hx hi => absurd (List.getElem?_eq_some_iff.1 hx).1 (by omega)⟩
  hi := by simp [hitE]
theorem At.all_ge {α : Type} {c : α → Int} {xs : List α} {b : Bool} (h : ∀ (i : Nat) x, xs[i]? = some x → 0 ≤ c x) (hb : hitE c xs 0 = b) : At c xs 0 b where
  mo := fun i j x y _ hy _ hn => absurd (h j y hy) (by omega)
  cu := ⟨Nat.zero_le _, fun i x _ hi => absurd hi (Nat.not_lt_zero _), fun i x hx _ => h i x hx⟩
  hi := hb
theorem node_lt {ns : List Nd} (h : ∀ (i : Nat) x y, ns[i]? = some x → ns[i + 1]? = some y → x.i < y.i) : ∀ (d i : Nat) x y, ns[i]? = some x → ns[i + d + 1]? = some y → x.i < y.i := by
  intro d
  induction d with
  | zero => intro i x y hx hy; exact h i x y hx hy
  | succ d ih =>
    intro i x y hx hy
    obtain ⟨z, hz⟩ : ∃ z, ns[i + d + 1]? = some z := ⟨_, List.getElem?_eq_getElem (by have := (List.getElem?_eq_some_iff.1 hy).1; omega)⟩
    have h1 := ih i x z hx hz
    have h2 := h (i + d + 1) z y hz hy
    omega
theorem sg_lt {a b : Int} : sg a b < 0 ↔ a < b := by unfold sg; split <;> (try split) <;> constructor <;> intro h <;> omega
theorem sg_ge {a b : Int} : 0 ≤ sg a b ↔ b ≤ a := by unfold sg; split <;> (try split) <;> constructor <;> intro h <;> omega
theorem At.node {ns : List Nd} (h : ∀ (i : Nat) x y, ns[i]? = some x → ns[i + 1]? = some y → x.i < y.i) {k : Nat} {a : Int} (hk : ns[k]? = some ⟨a⟩) : At (fun y : Nd => sg y.i a) ns k true where
  mo := fun i j x y hx hy hij hn => by
    obtain ⟨d, rfl⟩ : ∃ d, j = i + d + 1 := ⟨j - i - 1, by omega⟩
    have := node_lt h d i x y hx hy
    rw [sg_lt] at hn ⊢
    omega
  cu := ⟨Nat.le_of_lt (List.getElem?_eq_some_iff.1 hk).1, fun i x hx hi => by
      obtain ⟨d, rfl⟩ : ∃ d, k = i + d + 1 := ⟨k - i - 1, by omega⟩
      exact sg_lt.2 (node_lt h d i x _ hx hk), fun i x hx hi => by
      refine sg_ge.2 ?_
      rcases Nat.lt_or_eq_of_le hi with h1 | rfl
      · obtain ⟨d, rfl⟩ : ∃ d, i = k + d + 1 := ⟨i - k - 1, by omega⟩
        exact Int.le_of_lt (node_lt h d k _ x hk hx)
      · rw [hk] at hx; cases hx; exact Int.le_refl _⟩
  hi := by simp [hitE, hk, sg]

/-- the full graph: 64 nodes, 2048 links of cost c, 1024 pins -/
def nsF : List Nd := (List.range 64).map fun i : Nat => ⟨(i : Int)⟩
def lkF (c : Int) (i : Nat) : Lk := ⟨((i / 63 : Nat) : Int), ((if i % 63 < i / 63 then i % 63 else i % 63 + 1 : Nat) : Int), c, 0⟩
def lsF (c : Int) : List Lk := (List.range 2048).map (lkF c)
def pnF (c : Int) (i : Nat) : Pn := ⟨⟨256 * (i : Int), 24⟩, 3, c - 1⟩
def psF (c : Int) : List Pn := (List.range 1024).map (pnF c)
theorem get_F {α : Type} {f : Nat → α} {n i : Nat} {x : α} (h : ((List.range n).map f)[i]? = some x) : i < n ∧ x = f i := by
  rw [List.getElem?_map] at h
  by_cases hi : i < n
  · rw [List.getElem?_range hi] at h; exact ⟨hi, by simpa using h.symm⟩
  · rw [List.getElem?_eq_none (by simp; omega)] at h; cases h
theorem get_F' {α : Type} {f : Nat → α} {n i : Nat} (h : i < n) : ((List.range n).map f)[i]? = some (f i) := by
  rw [List.getElem?_map, List.getElem?_range h]; rfl
theorem nsF_sort : ∀ (i : Nat) x y, nsF[i]? = some x → nsF[i + 1]? = some y → x.i < y.i := by
  intro i x y hx hy
  obtain ⟨_, rfl⟩ := get_F hx
  obtain ⟨_, rfl⟩ := get_F hy
  show ((i : Nat) : Int) < ((i + 1 : Nat) : Int)
  omega
theorem nsF_at {k : Nat} (h : k < 64) : At (fun y : Nd => sg y.i (k : Int)) nsF k true := At.node nsF_sort (get_F' h)
theorem nsF_mem {k : Nat} (h : k < 64) : ∃ n ∈ nsF, n.i = (k : Int) := ⟨⟨(k : Int)⟩, List.mem_map.2 ⟨k, List.mem_range.2 h, rfl⟩, rfl⟩
theorem cmpL_lt {p q : Lk} (h : p.f < q.f ∨ (p.f = q.f ∧ p.t < q.t)) : cmpL p q < 0 := by
  unfold cmpL orz sg
  repeat' split
  all_goals omega
theorem cmpL_ge {p q : Lk} (h : q.f < p.f ∨ (p.f = q.f ∧ q.t ≤ p.t)) : 0 ≤ cmpL p q := by
  unfold cmpL orz sg
  repeat' split
  all_goals omega
theorem cmpN_lt {p q : Pn} (h : p.p.a < q.p.a) : cmpN p q < 0 := by
  unfold cmpN cmpP orz sg
  repeat' split
  all_goals omega
theorem cmpN_ge {p q : Pn} (h : q.p.a < p.p.a ∨ (p.p.a = q.p.a ∧ (q.p.l < p.p.l ∨ (p.p.l = q.p.l ∧ q.n ≤ p.n)))) : 0 ≤ cmpN p q := by
  unfold cmpN cmpP orz sg
  repeat' split
  all_goals omega
theorem rngI {lo hi n : Int} (h1 : lo ≤ n) (h2 : n ≤ hi) : rng lo hi n = true := by unfold rng; simp [h1, h2]
theorem SndF {c : Int} (h1 : 1 ≤ c) (h2 : c ≤ 65535) : SndG nsF (lsF c) (psF c) where
  nr := fun i x hx => by obtain ⟨hi, rfl⟩ := get_F hx; exact rngI (by show (0 : Int) ≤ (i : Int); omega) (by show (i : Int) ≤ 127; omega)
  na := nsF_sort
  ll := by simp [lsF]
  lr := fun i x hx => by
    obtain ⟨hi, rfl⟩ := get_F hx
    refine ⟨nsF_mem (by omega), nsF_mem (by split <;> omega), ?_, rngI h1 h2, rngI (Int.le_refl _) (by show (0 : Int) ≤ 65535; decide)⟩
    show ((i / 63 : Nat) : Int) ≠ ((if i % 63 < i / 63 then i % 63 else i % 63 + 1 : Nat) : Int)
    split <;> omega
  la := fun i x y hx hy => by
    obtain ⟨hi, rfl⟩ := get_F hx
    obtain ⟨hj, rfl⟩ := get_F hy
    refine cmpL_lt ?_
    show ((i / 63 : Nat) : Int) < (((i + 1) / 63 : Nat) : Int) ∨ (((i / 63 : Nat) : Int) = (((i + 1) / 63 : Nat) : Int) ∧ ((if i % 63 < i / 63 then i % 63 else i % 63 + 1 : Nat) : Int) < ((if (i + 1) % 63 < (i + 1) / 63 then (i + 1) % 63 else (i + 1) % 63 + 1 : Nat) : Int))
    split <;> split <;> omega
  pl := by simp [psF]
  pr := fun i x hx => by
    obtain ⟨hi, rfl⟩ := get_F hx
    refine ⟨nsF_mem (k := 3) (by omega), .inr ⟨rfl, ?_⟩, rngI (by show (0 : Int) ≤ c - 1; omega) (by show c - 1 ≤ (65535 : Int); omega)⟩
    have key : ∀ i : Nat, i < 1024 → (bits .andNot .u32 (256 * (i : Int)) 4294967040 == 0) = true := by decide +kernel
    exact key i hi
  pa := fun i x y hx hy => by
    obtain ⟨hi, rfl⟩ := get_F hx
    obtain ⟨hj, rfl⟩ := get_F hy
    exact cmpN_lt (by show (256 * (i : Int)) < 256 * ((i + 1 : Nat) : Int); omega)

def ed (k a b c d : Int) (p : Pf) : Ed := ⟨k, a, b, c, d, p⟩
theorem runs_awake : Runs 0 ⟨[], [], []⟩ [⟨1, 3, 0, 0, 0, ⟨0, 0⟩⟩, ⟨1, 1, 0, 0, 0, ⟨0, 0⟩⟩, ⟨4, 3, 1, 5, 0, ⟨0, 0⟩⟩] (.ok ⟨[⟨1⟩, ⟨3⟩], [⟨3, 1, 5, 0⟩], []⟩) := by
  refine .cons (ok_node ⟨1, 3, 0, 0, 0, ⟨0, 0⟩⟩ ⟨[], [], []⟩ 0 rfl rfl (by simp [BdG]) (At.all_ge (fun i x hx => by simp at hx) rfl)) ?_
  refine .cons (ok_node ⟨1, 1, 0, 0, 0, ⟨0, 0⟩⟩ ⟨[⟨3⟩], [], []⟩ 0 rfl rfl (by simp [BdG]) (At.all_ge (fun i x hx => by rcases i with _ | i <;> simp at hx; subst hx; decide) (by decide))) ?_
  have hs : ∀ (i : Nat) x y, ([⟨1⟩, ⟨3⟩] : List Nd)[i]? = some x → ([⟨1⟩, ⟨3⟩] : List Nd)[i + 1]? = some y → x.i < y.i := by
    intro i x y hx hy
    rcases i with _ | i
    · simp at hx hy; subst hx hy; decide
    · simp at hy
  exact .cons (ok_link ⟨4, 3, 1, 5, 0, ⟨0, 0⟩⟩ ⟨[⟨1⟩, ⟨3⟩], [], []⟩ 1 0 0 rfl rfl rfl (by decide) (by simp [BdG]) (At.node hs rfl) (At.node hs rfl) (At.all_ge (fun i x hx => by simp at hx) rfl) rfl rfl (by decide)) .nil
theorem bdF (c : Int) : BdG ⟨nsF, lsF c, psF c⟩ := by simp [BdG, nsF, lsF, psF]
theorem at_link (c : Int) {ls : List Lk} (h : ∀ (i : Nat) x, ls[i]? = some x → x.f < 63) : At (fun y => cmpL y ⟨63, 1, 0, 0⟩) ls ls.length false := At.all_lt (fun i x hx => cmpL_lt (.inl (h i x hx)))
theorem lsF_lt (c : Int) (i : Nat) (x : Lk) (hx : (lsF c)[i]? = some x) : x.f < 63 := by
  obtain ⟨hi, rfl⟩ := get_F hx
  show ((i / 63 : Nat) : Int) < 63
  omega
set_option maxRecDepth 100000 in
theorem runs_errL {c : Int} (h1 : 1 ≤ c) (h2 : c ≤ 65535) : Runs 0 ⟨nsF, lsF c, psF c⟩ [⟨4, 63, 1, c, 0, ⟨0, 0⟩⟩] (.err 0 7) :=
  .err (err_link ⟨4, 63, 1, c, 0, ⟨0, 0⟩⟩ ⟨nsF, lsF c, psF c⟩ 63 1 (lsF c).length rfl rfl rfl (by show (63 : Int) ≠ 1; decide) (bdF c) (nsF_at (k := 63) (by omega)) (nsF_at (k := 1) (by omega)) (at_link c (lsF_lt c)) (rngI h1 h2) rfl (by simp [lsF])) (by decide)
theorem psF_ge (c : Int) (i : Nat) (x : Pn) (hx : (psF c)[i]? = some x) : 0 ≤ cmpN x ⟨⟨0, 0⟩, 4, 0⟩ := by
  obtain ⟨hi, rfl⟩ := get_F hx
  refine cmpN_ge ?_
  rcases Nat.eq_zero_or_pos i with rfl | h
  · exact .inr ⟨rfl, .inl (by show (0 : Int) < 24; decide)⟩
  · exact .inl (by show (0 : Int) < 256 * (i : Int); omega)
set_option maxRecDepth 100000 in
theorem runs_errP (c : Int) : Runs 0 ⟨nsF, lsF c, psF c⟩ [⟨9, 4, 0, 0, 0, ⟨0, 0⟩⟩] (.err 0 7) :=
  .err (err_pin ⟨9, 4, 0, 0, 0, ⟨0, 0⟩⟩ ⟨nsF, lsF c, psF c⟩ 4 0 rfl rfl (.inl rfl) (bdF c) (nsF_at (k := 4) (by omega)) (At.all_ge (psF_ge c) (by rw [hitE, show (psF c)[0]? = some (pnF c 0) from get_F' (by omega)]; simp [pnF, cmpN, cmpP, orz, sg])) rfl (by simp [psF])) (by decide)
theorem get_erase0 {α : Type} {xs : List α} {i : Nat} {x : α} (h : (xs.eraseIdx 0)[i]? = some x) : xs[i + 1]? = some x := by
  cases xs with
  | nil => simp at h
  | cons a r => simpa using h
set_option maxRecDepth 100000 in
theorem runs_ok {c : Int} (h1 : 1 ≤ c) (h2 : c ≤ 65535) : ∃ G : Gr, Runs 0 ⟨nsF, lsF c, psF c⟩ [⟨5, 0, 1, 0, 0, ⟨0, 0⟩⟩, ⟨4, 63, 1, c, 0, ⟨0, 0⟩⟩, ⟨10, 3, 0, 0, 0, ⟨0, 24⟩⟩, ⟨9, 4, 0, 0, 0, ⟨0, 0⟩⟩] (.ok G) ∧ G.ls.length = 2048 ∧ G.ps.length = 1024 := by
  have hl0 : (lsF c).length = 2048 := by simp [lsF]
  have hp0 : (psF c).length = 1024 := by simp [psF]
  have hn0 : nsF.length = 64 := by simp [nsF]
  have hl1 : ((lsF c).eraseIdx 0).length = 2047 := by rw [List.length_eraseIdx_of_lt (by omega), hl0]
  have hp1 : ((psF c).eraseIdx 0).length = 1023 := by rw [List.length_eraseIdx_of_lt (by omega), hp0]
  have B2 : BdG ⟨nsF, (lsF c).eraseIdx 0, psF c⟩ := ⟨by simp only [hn0]; decide, by simp only [hl1]; decide, by simp only [hp0]; decide⟩
  let ls2 := ((lsF c).eraseIdx 0).take ((lsF c).eraseIdx 0).length ++ (⟨63, 1, c, 0⟩ : Lk) :: ((lsF c).eraseIdx 0).drop ((lsF c).eraseIdx 0).length
  have hl2 : ls2.length = 2048 := by simp only [ls2, List.length_append, List.length_cons, List.length_take, List.length_drop]; omega
  have B3 : BdG ⟨nsF, ls2, psF c⟩ := ⟨by simp only [hn0]; decide, by simp only [hl2]; decide, by simp only [hp0]; decide⟩
  have B4 : BdG ⟨nsF, ls2, (psF c).eraseIdx 0⟩ := ⟨by simp only [hn0]; decide, by simp only [hl2]; decide, by simp only [hp1]; decide⟩
  have e1 : DoOk ⟨5, 0, 1, 0, 0, ⟨0, 0⟩⟩ ⟨nsF, lsF c, psF c⟩ ⟨nsF, (lsF c).eraseIdx 0, psF c⟩ := ok_unlink ⟨5, 0, 1, 0, 0, ⟨0, 0⟩⟩ ⟨nsF, lsF c, psF c⟩ 0 1 0 rfl rfl rfl (by decide) (bdF c) (nsF_at (k := 0) (by omega)) (nsF_at (k := 1) (by omega)) (At.all_ge (fun i x hx => by
    obtain ⟨hi, rfl⟩ := get_F hx
    refine cmpL_ge ?_
    show (0 : Int) < ((i / 63 : Nat) : Int) ∨ (((i / 63 : Nat) : Int) = 0 ∧ (1 : Int) ≤ ((if i % 63 < i / 63 then i % 63 else i % 63 + 1 : Nat) : Int))
    split <;> omega) (by rw [hitE, show (lsF c)[0]? = some (lkF c 0) from get_F' (by omega)]; simp [lkF, cmpL, orz, sg])) (by simp only [hl0]; decide)
  have e2 : DoOk ⟨4, 63, 1, c, 0, ⟨0, 0⟩⟩ ⟨nsF, (lsF c).eraseIdx 0, psF c⟩ ⟨nsF, ls2, psF c⟩ := ok_link ⟨4, 63, 1, c, 0, ⟨0, 0⟩⟩ ⟨nsF, (lsF c).eraseIdx 0, psF c⟩ 63 1 _ rfl rfl rfl (by show (63 : Int) ≠ 1; decide) B2 (nsF_at (k := 63) (by omega)) (nsF_at (k := 1) (by omega)) (at_link c (fun i x hx => lsF_lt c (i + 1) x (get_erase0 hx))) (rngI h1 h2) rfl (by simp only [hl1]; decide)
  have e3 : DoOk ⟨10, 3, 0, 0, 0, ⟨0, 24⟩⟩ ⟨nsF, ls2, psF c⟩ ⟨nsF, ls2, (psF c).eraseIdx 0⟩ := ok_unpin ⟨10, 3, 0, 0, 0, ⟨0, 24⟩⟩ ⟨nsF, ls2, psF c⟩ 3 0 rfl rfl (.inr ⟨rfl, by decide +kernel⟩) B3 (nsF_at (k := 3) (by omega)) (At.all_ge (fun i x hx => by
    obtain ⟨hi, rfl⟩ := get_F hx
    refine cmpN_ge ?_
    rcases Nat.eq_zero_or_pos i with rfl | h
    · exact .inr ⟨rfl, .inr ⟨rfl, Int.le_refl _⟩⟩
    · exact .inl (by show (0 : Int) < 256 * (i : Int); omega)) (by rw [hitE, show (psF c)[0]? = some (pnF c 0) from get_F' (by omega)]; simp [pnF, cmpN, cmpP, orz, sg])) (by simp only [hp0]; decide)
  have e4 : DoOk ⟨9, 4, 0, 0, 0, ⟨0, 0⟩⟩ ⟨nsF, ls2, (psF c).eraseIdx 0⟩ ⟨nsF, ls2, ((psF c).eraseIdx 0).take 0 ++ (⟨⟨0, 0⟩, 4, 0⟩ : Pn) :: ((psF c).eraseIdx 0).drop 0⟩ := ok_pin ⟨9, 4, 0, 0, 0, ⟨0, 0⟩⟩ ⟨nsF, ls2, (psF c).eraseIdx 0⟩ 4 0 rfl rfl (.inl rfl) B4 (nsF_at (k := 4) (by omega)) (At.all_ge (fun i x hx => psF_ge c (i + 1) x (get_erase0 hx)) (by
    have e : ((psF c).eraseIdx 0)[0]? = some (pnF c 1) := by rw [List.getElem?_eraseIdx]; exact get_F' (f := pnF c) (n := 1024) (i := 1) (by omega)
    rw [hitE, e]; simp [pnF, cmpN, cmpP, orz, sg])) rfl (by simp only [hp1]; decide)
  exact ⟨_, .cons e1 (.cons e2 (.cons e3 (.cons e4 .nil))), hl2, by simp only [List.take_zero, List.nil_append, List.drop_zero, List.length_cons, hp1]⟩

end Go.Proofs.Ytpklcefiabjplaa
