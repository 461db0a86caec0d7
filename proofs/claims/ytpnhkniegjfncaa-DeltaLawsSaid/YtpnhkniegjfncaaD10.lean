/- delta.All: the iterator over two cloned tables, or none where one is not sound; conditions: the routes fit the memory. -/
import Derived.Test.YtpnhkniegjfncaaD9
import Derived.Deep.RegionWith
import Derived.RangeFuncBox
namespace Go.Proofs.Ytpnhkniegjfncaa
open Go.ChangeShapes Go.WideShapes Go.ChangeAt Go.RowKit
set_option linter.unusedVariables false
set_option linter.unusedSimpArgs false
attribute [local go_sem] Og.Opt Og.OpY

theorem errT_t : errT true = 0 := rfl
theorem errT_f : errT false = 1 := rfl
set_option maxRecDepth 100000 in
set_option maxHeartbeats 4000000 in
theorem All_no (xs ys : List Ro) (A A' : Option Addr) (c c' : Nat) (w : World) (hr : RdR w A xs) (hr' : RdR w A' ys) (hl : xs.length ≤ 2513169434843) (hl' : ys.length ≤ 2513169434843) (h : (sndT xs && sndT ys) = false) :
    Calls Try.prog 10 #[.slice A xs.length c, .slice A' ys.length c'] w fun e w' => e = .returned (.tuple #[.func (.func 23) #[] #[], .int .i64 1]) ∧ Below w.heap.size w w' := by
  have H1 := Lib.hid (fun w2 (h : Below w.heap.size w w2) => Sound_ok xs A c w2 (hr.below h) (by omega))
  have H2 := Lib.hid (fun w2 (h : Below w.heap.size w w2) => Sound_ok ys A' c' w2 (hr'.below h) (by omega))
  obtain ⟨n, hn⟩ : ∃ n, n = xs.length := ⟨_, rfl⟩
  obtain ⟨n', hn'⟩ : ∃ n, n = ys.length := ⟨_, rfl⟩
  rw [← hn] at H1 ⊢
  rw [← hn'] at H2 ⊢
  clear hl hl' hr hr' hn hn'
  cases hx : sndT xs with
  | false =>
    rw [hx, errT_f] at H1
    clear h hx
    go_enter Try.func10, Try.ntmps10
    go_wp2_with fail
    refine Calls.mono (H1.out _ ?hB) ?_
    case hB => exact (by repeat (first | exact Below.refl _ _ | refine Below.alloc ?_ (by first | exact Nat.le_refl _ | (simp; done) | (simp; omega)) _))
    rintro e w2 ⟨rfl, hb⟩
    have hb2 : Hid (Below w.heap.size w w2) := Lib.hid (bthen' (by repeat (first | exact Below.refl _ _ | refine Below.alloc ?_ (by first | exact Nat.le_refl _ | (simp; done) | (simp; omega)) _)) (by first | (simp; done) | (simp; omega)) hb)
    go_wp2_with fail
    go_ret2
    exact ⟨rfl, hb2.out⟩
  | true =>
    rw [hx, errT_t] at H1
    rw [show sndT ys = false by simpa [hx] using h, errT_f] at H2
    clear h hx
    go_enter Try.func10, Try.ntmps10
    go_wp2_with fail
    refine Calls.mono (H1.out _ ?hB) ?_
    case hB => exact (by repeat (first | exact Below.refl _ _ | refine Below.alloc ?_ (by first | exact Nat.le_refl _ | (simp; done) | (simp; omega)) _))
    rintro e w2 ⟨rfl, hb⟩
    have hb2 : Hid (Below w.heap.size w w2) := Lib.hid (bthen' (by repeat (first | exact Below.refl _ _ | refine Below.alloc ?_ (by first | exact Nat.le_refl _ | (simp; done) | (simp; omega)) _)) (by first | (simp; done) | (simp; omega)) hb)
    have hm : w2.cell? ⟨w.heap.size + 1, 0, none⟩ = some (.slice A' n' c') := bcell hb (by simp)
    clear hb
    go_wp2_with fail
    refine Calls.mono (H2.out _ hb2.out) ?_
    rintro e w3 ⟨rfl, hb⟩
    have hb3 := Lib.hid (bthen' hb2.out hb2.out.size hb)
    clear hb hm
    go_wp2_with fail
    go_ret2
    exact ⟨rfl, hb3.out⟩

/-- a box that holds a slice of routes -/
def BoxR (B0 : Nat) (w : World) (B : Nat) (xs : List Ro) : Prop := B0 ≤ B ∧ ∃ v, Boxed w B 22 v ∧ SlR B0 w v xs
theorem boxed_below {w w' : World} {B : Nat} {t : TypeId} {v : Value} (h : Boxed w B t v) (hb : Below w.heap.size w w') : Boxed w' B t v := (hb.block B h.lt).trans h
theorem BoxR.below {B0 : Nat} {w w' : World} {B : Nat} {xs : List Ro} (h : BoxR B0 w B xs) (hb : Below w.heap.size w w') : BoxR B0 w' B xs := by
  obtain ⟨h0, v, h1, h2⟩ := h
  exact ⟨h0, v, boxed_below h1 hb, h2.below hb⟩

theorem setCell_cell {w : World} {p a : Addr} {u v : Value} (h : w.cell? a = some v) (hne : a.block ≠ p.block) : (w.setCell p u).cell? a = some v :=
  (World.cell?_of_block (Below.heap_setCell w p u a.block hne)).trans h
theorem AtR.set {w : World} {b o : Nat} {r : Ro} {p : Addr} {u : Value} (h : AtR w b o r) (hne : b ≠ p.block) : AtR (w.setCell p u) b o r := by
  obtain ⟨h0, h1, h2, h3, h4, h5, h6⟩ := h
  exact ⟨setCell_cell h0 hne, setCell_cell h1 hne, setCell_cell h2 hne, setCell_cell h3 hne, setCell_cell h4 hne, setCell_cell h5 hne, setCell_cell h6 hne⟩
theorem SlR.set {B : Nat} {w : World} {v : Value} {xs : List Ro} {p : Addr} {u : Value} (h : SlR B w v xs) (hp : p.block < B) : SlR B (w.setCell p u) v xs := by
  obtain ⟨A, c, hv, hr, h1, h2, h3⟩ := h
  refine ⟨A, c, hv, fun i r hi => ?_, h1, h2, h3⟩
  obtain ⟨b, o, hA, ha⟩ := hr i r hi
  exact ⟨b, o, hA, ha.set (by have := h2 _ hA; simp only at this; omega)⟩
theorem SlR.mono {B B' : Nat} {w : World} {v : Value} {xs : List Ro} (h : SlR B w v xs) (hB : B' ≤ B) : SlR B' w v xs := by
  obtain ⟨A, c, hv, hr, h1, h2, h3⟩ := h
  exact ⟨A, c, hv, hr, h1, fun a ha => Nat.le_trans hB (h2 a ha), h3⟩
theorem all_fin {w w5 : World} {xs ys : List Ro} {v0 v0' v1 v2 : Value} {b0 : Nat} (b5 : Below b0 w w5) (hx : Boxed w5 b0 22 v0) (hy : Boxed w5 (b0 + 1) 22 v0') (s1 : SlR (b0 + 2) w5 v1 xs) (s2 : SlR (b0 + 2) w5 v2 ys) :
    BoxR b0 ((w5.setCell ⟨b0, 0, none⟩ v1).setCell ⟨b0 + 1, 0, none⟩ v2) b0 xs ∧ BoxR b0 ((w5.setCell ⟨b0, 0, none⟩ v1).setCell ⟨b0 + 1, 0, none⟩ v2) (b0 + 1) ys ∧ Below b0 w ((w5.setCell ⟨b0, 0, none⟩ v1).setCell ⟨b0 + 1, 0, none⟩ v2) := by
  refine ⟨⟨Nat.le_refl _, v1, ?_, ((s1.set (by simp)).set (by simp)).mono (by omega)⟩, ⟨by omega, v2, ?_, ((s2.set (by simp)).set (by simp)).mono (by omega)⟩, (b5.setCell (by simp) _).setCell (by simp) _⟩
  · exact (Below.heap_setCell _ _ _ _ (by simp)).trans (Boxed.set v1 hx)
  · exact Boxed.set v2 ((Below.heap_setCell _ _ _ _ (by simp)).trans hy)

set_option maxRecDepth 100000 in
set_option maxHeartbeats 4000000 in
theorem All_yes (xs ys : List Ro) (A A' : Option Addr) (c c' : Nat) (w : World) (hr : RdR w A xs) (hr' : RdR w A' ys) (hA0 : A = none → c = 0) (hA0' : A' = none → c' = 0) (hl : xs.length ≤ 2513169434843) (hl' : ys.length ≤ 2513169434843) (h : (sndT xs && sndT ys) = true) :
    Calls Try.prog 10 #[.slice A xs.length c, .slice A' ys.length c'] w fun e w' => (∃ B B', e = .returned (.tuple #[.func (.func 25) #[] #[.pointer (some ⟨B, 0, none⟩), .pointer (some ⟨B', 0, none⟩)], .int .i64 0]) ∧ BoxR w.heap.size w' B xs ∧ BoxR w.heap.size w' B' ys) ∧ Below w.heap.size w w' := by
  have H1 := Lib.hid (fun w2 (h : Below w.heap.size w w2) => Sound_ok xs A c w2 (hr.below h) (by omega))
  have H2 := Lib.hid (fun w2 (h : Below w.heap.size w w2) => Sound_ok ys A' c' w2 (hr'.below h) (by omega))
  have G1 := Lib.hid (fun w2 (h : Below w.heap.size w w2) => Clone_ok xs A c w2 (hr.below h) hA0 hl)
  have G2 := Lib.hid (fun w2 (h : Below w.heap.size w w2) => Clone_ok ys A' c' w2 (hr'.below h) hA0' hl')
  obtain ⟨n, hn⟩ : ∃ n, n = xs.length := ⟨_, rfl⟩
  obtain ⟨n', hn'⟩ : ∃ n, n = ys.length := ⟨_, rfl⟩
  rw [← hn] at H1 G1 ⊢
  rw [← hn'] at H2 G2 ⊢
  clear hl hl' hr hr' hn hn' hA0 hA0'
  obtain ⟨hx, hy⟩ := Bool.and_eq_true_iff.1 h
  rw [hx, errT_t] at H1
  rw [hy, errT_t] at H2
  clear h hx hy
  go_enter Try.func10, Try.ntmps10
  go_wp2_with fail
  refine Calls.mono (H1.out _ ?hB) ?_
  case hB => exact (by repeat (first | exact Below.refl _ _ | refine Below.alloc ?_ (by first | exact Nat.le_refl _ | (simp; done) | (simp; omega)) _))
  rintro e w2 ⟨rfl, hb⟩
  have hb2 : Hid (Below w.heap.size w w2) := Lib.hid (bthen' (by repeat (first | exact Below.refl _ _ | refine Below.alloc ?_ (by first | exact Nat.le_refl _ | (simp; done) | (simp; omega)) _)) (by first | (simp; done) | (simp; omega)) hb)
  have K2 : Boxed w2 w.heap.size 22 (.slice A n c) ∧ Boxed w2 (w.heap.size + 1) 22 (.slice A' n' c') := ⟨boxed_below ((Boxed.new w 22 _).alloc _) hb, boxed_below (by have := Boxed.new (w.alloc (Obj.cells #[.slice A n c] 22)) 22 (.slice A' n' c'); rwa [World.size_alloc] at this) hb⟩
  clear hb
  have hm := Boxed.cell K2.2
  have K2 := Lib.hid K2
  go_wp2_with fail
  refine Calls.mono (H2.out _ hb2.out) ?_
  rintro e w3 ⟨rfl, hb⟩
  have hb3 := Lib.hid (bthen' hb2.out hb2.out.size hb)
  have K3 := Lib.hid (show Boxed w3 w.heap.size 22 (.slice A n c) ∧ Boxed w3 (w.heap.size + 1) 22 (.slice A' n' c') from ⟨boxed_below K2.out.1 hb, boxed_below K2.out.2 hb⟩)
  clear hb hm hb2 K2
  have HC : ∀ w4, Below w3.heap.size w3 w4 → w4.cell? ⟨w.heap.size, 0, none⟩ = some (.slice A n c) ∧ w4.cell? ⟨w.heap.size + 1, 0, none⟩ = some (.slice A' n' c') ∧ w4.frozen? ⟨w.heap.size, 0, none⟩ = false ∧ w4.frozen? ⟨w.heap.size + 1, 0, none⟩ = false :=
    fun w4 h => ⟨(boxed_below K3.out.1 h).cell, (boxed_below K3.out.2 h).cell, (boxed_below K3.out.1 h).frozen, (boxed_below K3.out.2 h).frozen⟩
  go_wp2_with fail
  have hm := HC w3.drew bdrew
  go_region_with (go_at_call 24; first
    | (refine Calls.mono (G1.out _ (bthen' hb3.out hb3.out.size bdrew)) ?_; clear G1 hm; rintro e w4 ⟨⟨v1, rfl, ⟨A1, c1, rfl, hv1⟩⟩, hb4⟩; have hm := HC w4 (bthen bdrew hb4))
    | (refine Calls.mono (G2.out _ (bthen' hb3.out hb3.out.size (bthen bdrew hb4))) ?_; clear G2 hm; rintro e w5 ⟨⟨v2, rfl, ⟨A2, c2, rfl, hv2⟩⟩, hb5⟩; have hm := HC w5 (bthen (bthen bdrew hb4) hb5)))
  all_goals
    have hsz : w.heap.size + 2 ≤ w3.heap.size := by have := Boxed.lt K3.out.2; omega
    have hw5 : Below w3.heap.size w3 w5 := bthen (bthen bdrew hb4) hb5
    have s1 : SlR (w.heap.size + 2) w4 (.slice A1 xs.length c1) xs := SlR.mono ⟨A1, c1, rfl, hv1⟩ hsz
    have s2 : SlR (w.heap.size + 2) w5 (.slice A2 ys.length c2) ys := SlR.mono ⟨A2, c2, rfl, hv2⟩ (Nat.le_trans hsz (by have := hb4.size; simpa using this))
    have F := Lib.hid (all_fin (w := w) (bthen' hb3.out hb3.out.size hw5) (boxed_below K3.out.1 hw5) (boxed_below K3.out.2 hw5) (s1.below hb5) s2)
    clear s1 s2 hw5 hsz hb5 hb4 hv1 hv2 HC hm hb3 K3
    go_wp2_with fail
    go_ret2
    exact ⟨⟨_, _, rfl, F.out.1, F.out.2.1⟩, F.out.2.2⟩

end Go.Proofs.Ytpnhkniegjfncaa
