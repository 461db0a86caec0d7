/- Front on the small graph of awake; a check of sound graphs; conditions as stated. -/
import Derived.Test.YtpklcefiabjplaaR21
namespace Go.Proofs.Ytpklcefiabjplaa
open Go.ChangeShapes Go.WideShapes Go.ChangeAt Go.RowKit
set_option linter.unusedVariables false
set_option linter.unusedSimpArgs false
attribute [local go_sem] Og.Opt Og.OpY

attribute [local go_sem] Og.Opt Og.OpY

def adjB {α : Type} (r : α → α → Bool) : List α → Bool
  | x :: y :: xs => r x y && adjB r (y :: xs)
  | _ => true
theorem adjB_at {α : Type} {r : α → α → Bool} : ∀ (xs : List α), adjB r xs = true → ∀ (i : Nat) x y, xs[i]? = some x → xs[i + 1]? = some y → r x y = true
  | [], _, i, x, y, h, _ => by simp at h
  | [a], _, i, x, y, _, h => by simp at h
  | a :: b :: xs, h, 0, x, y, hx, hy => by
    simp only [adjB, Bool.and_eq_true] at h
    simp at hx hy
    subst hx hy
    exact h.1
  | a :: b :: xs, h, i + 1, x, y, hx, hy => by
    simp only [adjB, Bool.and_eq_true] at h
    exact adjB_at (b :: xs) h.2 i x y (by simpa using hx) (by simpa using hy)
def sndB (ns : List Nd) (ls : List Lk) : Bool :=
  ns.all (fun x => rng 0 127 x.i) && adjB (fun x y => decide (x.i < y.i)) ns && decide (ls.length ≤ 2048) &&
  ls.all (fun x => ns.any (fun n => decide (n.i = x.f)) && ns.any (fun n => decide (n.i = x.t)) && !decide (x.f = x.t) && rng 1 65535 x.c && rng 0 65535 x.d) && adjB (fun x y => decide (cmpL x y < 0)) ls
theorem sndB_ok {ns : List Nd} {ls : List Lk} (h : sndB ns ls = true) : SndG ns ls [] := by
  unfold sndB at h
  simp only [Bool.and_eq_true, decide_eq_true_eq] at h
  obtain ⟨⟨⟨⟨h1, h2⟩, h3⟩, h4⟩, h5⟩ := h
  refine ⟨fun i x hx => List.all_eq_true.1 h1 x (List.mem_of_getElem? hx), fun i x y hx hy => by simpa using adjB_at ns h2 i x y hx hy, h3, fun i x hx => ?_, fun i x y hx hy => by simpa using adjB_at ls h5 i x y hx hy, by simp, fun i x hx => by simp at hx, fun i x y hx => by simp at hx⟩
  have := List.all_eq_true.1 h4 x (List.mem_of_getElem? hx)
  simp only [Bool.and_eq_true, Bool.not_eq_true', decide_eq_false_iff_not, List.any_eq_true, decide_eq_true_eq] at this
  obtain ⟨⟨⟨⟨a, b⟩, c⟩, d⟩, e⟩ := this
  exact ⟨a, b, c, d, e⟩
def nsA : List Nd := [⟨1⟩, ⟨2⟩, ⟨3⟩]
def lsA : List Lk := [⟨1, 2, 1, 9⟩, ⟨1, 3, 5, 1⟩, ⟨2, 3, 1, 9⟩]
theorem sndA : SndG nsA lsA [] := sndB_ok (by kernel_rfl)
theorem treeA : (treeP (viewL lsA) 1).isSome = true := by kernel_rfl
theorem walkA : (walkP (viewL lsA) 100 [⟨0, 0, 1⟩] f128 0).map (fun r => (r.2, r.1[3]?)) = some (0, some [(2, 18), (5, 1)]) := by kernel_rfl
theorem fb1 : fb 1 = 4607182418800017408 := by unfold fb; decide +kernel
theorem fb2 : fb 2 = 4611686018427387904 := by unfold fb; decide +kernel
theorem fb5 : fb 5 = 4617315517961601024 := by unfold fb; decide +kernel
theorem fb18 : fb 18 = 4625759767262920704 := by unfold fb; decide +kernel
theorem Sl_lit {α : Type} {f : α → List Value} {m : Nat} {w : World} {g : Nat} {e : TypeId} {xs : List α} (hm : ∀ x, (f x).length = m) (h0 : 0 < m) (hg : w.heap[g]? = some (.cells (xs.flatMap f).toArray e (0, 0))) : Sl f m 0 w (.slice (some ⟨g, 0, none⟩) xs.length xs.length) xs := by
  refine ⟨_, _, rfl, fun i x hx => ⟨g, 0, rfl, fun k u hu => ?_⟩, fun h => (by cases h), fun a _ => Nat.zero_le _, Nat.le_refl _⟩
  have hk : k < m := by have := (List.getElem?_eq_some_iff.1 hu).1; rwa [hm] at this
  rw [Nat.zero_add, cell_of_row w g _ _ _ _ hg, List.getElem?_toArray, flat_get f m hm h0, Nat.mul_comm i m, Nat.mul_add_div h0, Nat.div_eq_of_lt hk, Nat.mul_add_mod, Nat.mod_eq_of_lt hk, Nat.add_zero, hx]
  exact hu
theorem FrontA (va vb vc : Value) (w : World) (g : GX w va vb vc nsA lsA) :
    Calls Try.prog 15 #[.agg #[va, vb, vc], .int .i64 1, .int .i64 3] w fun e w' => (∃ A c, e = .returned (.tuple #[.slice A 2 c, .int .i64 0]) ∧ Rd cPr 1 w' A [(2, 18), (5, 1)]) ∧ Below w.heap.size w w' := by
  obtain ⟨ds, hds⟩ := Option.isSome_iff_exists.1 treeA
  have hw := walkA
  rw [Option.map_eq_some_iff] at hw
  obtain ⟨⟨res, er⟩, hw, h2⟩ := hw
  simp only [Prod.mk.injEq] at h2
  obtain ⟨rfl, h3⟩ := h2
  refine (Front_ok 1 3 0 2 100 nsA lsA va vb vc ds res 0 [(2, 18), (5, 1)] w g rfl rfl hds hw h3).mono ?_
  rintro e w' ⟨⟨v, rfl, h⟩, hb⟩
  rcases h with ⟨h, _⟩ | ⟨_, A, c, rfl, hr⟩
  · exact absurd rfl h
  · exact ⟨⟨A, c, rfl, hr⟩, hb⟩
set_option maxRecDepth 100000 in
set_option maxHeartbeats 8000000 in
theorem awakeD_ok (w : World) : Calls Try.prog 16 #[] w fun e w' => e = .returned (.bool true) ∧ Below w.heap.size w w' := by
  have HFA := Lib.hid (fun va vb vc w2 g => FrontA va vb vc w2 g)
  obtain ⟨W, hW⟩ : ∃ W, ((w.alloc (.cells #[.int .i64 1, .bool false, .complex .f64 0 0, .int .i64 2, .bool false, .complex .f64 0 0, .int .i64 3, .bool false, .complex .f64 0 0] 41)).alloc (.cells #[.int .i64 1, .int .i64 2, .int .i64 1, .int .i64 9, .int .i64 1, .int .i64 3, .int .i64 5, .int .i64 1, .int .i64 2, .int .i64 3, .int .i64 1, .int .i64 9] 43)).alloc (.cells #[.slice (some ⟨w.heap.size, 0, none⟩) 3 3, .slice (some ⟨w.heap.size + 1, 0, none⟩) 3 3, .slice none 0 0] 33) = W := ⟨_, rfl⟩
  have bW : Below w.heap.size w W := by rw [← hW]; exact (((Below.refl _ _).alloc (Nat.le_refl _) _).alloc (by simp) _).alloc (by simp; omega) _
  have k0 : W.heap[w.heap.size]? = some (.cells (nsA.flatMap cNd).toArray 41 (0, 0)) := by rw [← hW]; exact heap_keep ((Below.refl _ _).alloc (Nat.le_refl _) _) (heap_keep ((Below.refl _ _).alloc (Nat.le_refl _) _) (heap_at rfl))
  have k1 : W.heap[w.heap.size + 1]? = some (.cells (lsA.flatMap cLk).toArray 43 (0, 0)) := by rw [← hW]; exact heap_keep ((Below.refl _ _).alloc (Nat.le_refl _) _) (heap_at (by simp))
  have gx : GX W (.slice (some ⟨w.heap.size, 0, none⟩) 3 3) (.slice (some ⟨w.heap.size + 1, 0, none⟩) 3 3) (.slice none 0 0) nsA lsA := ⟨Sl_lit cNd_len (by omega) k0, Sl_lit cLk_len (by omega) k1, Sl.nil, sndA, by decide⟩
  have GXW := Lib.hid gx
  have BW := Lib.hid bW
  have HWh := Lib.hid hW
  clear bW k0 k1 gx hW
  go_enter Try.func16, Try.ntmps16
  go_wp2_with fail
  rw [HWh.out]
  with_reducible refine (HFA.out _ _ _ _ GXW.out).mono ?_
  rintro e w2 ⟨⟨A, c, rfl, hr⟩, hb⟩
  have B2 := Lib.hid (bthen BW.out hb)
  obtain ⟨bk, o, rfl, h1⟩ := hr 0 _ rfl
  obtain ⟨bk2, o2, hA, h2⟩ := hr 1 _ rfl
  have q0 := h1 0 _ rfl
  have q1 := h2 0 _ rfl
  simp only [Option.some.injEq, Addr.mk.injEq, and_true] at hA
  obtain ⟨rfl, rfl⟩ := hA
  rw [fb2, fb18, Nat.zero_mul, Nat.add_zero] at q0
  rw [fb5, fb1, Nat.one_mul, Nat.add_zero] at q1
  have o1 : (FloatKind.f64.format.order 4611686018427387904 4611686018427387904 == some .eq) = true := by rw [← fb2, fbEq (by decide) (by decide)]; rfl
  have o2 : (FloatKind.f64.format.order 4625759767262920704 4625759767262920704 == some .eq) = true := by rw [← fb18, fbEq (by decide) (by decide)]; rfl
  have o3 : (FloatKind.f64.format.order 4617315517961601024 4617315517961601024 == some .eq) = true := by rw [← fb5, fbEq (by decide) (by decide)]; rfl
  have o4 : (FloatKind.f64.format.order 4607182418800017408 4607182418800017408 == some .eq) = true := by rw [← fb1, fbEq (by decide) (by decide)]; rfl
  clear h1 h2 hr hb HWh HFA
  go_wp2_with fail
  go_ret
  exact ⟨rfl, B2.out⟩

end Go.Proofs.Ytpklcefiabjplaa
