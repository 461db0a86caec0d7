/- delta.Back and the reference's Back turn each change about; conditions: the changes fit the memory. -/
import Derived.Test.YtpnhkniegjfncaaD6
namespace Go.Proofs.Ytpnhkniegjfncaa
open Go.ChangeShapes Go.WideShapes Go.ChangeAt Go.RowKit
set_option linter.unusedVariables false
set_option linter.unusedSimpArgs false
def zR : Ro := ⟨⟨0, 0⟩, 0, 0, 0, 0, 0⟩
/-- a change turned about -/
def bk (c : Ch) : Ch := if c.k = 1 then ⟨2, c.n, zR⟩ else if c.k = 2 then ⟨1, zR, c.o⟩ else if c.k = 3 then ⟨3, c.n, c.o⟩ else c
theorem below_grown {w w' : World} (h : Below w.heap.size w w') : w.grownBy w' none := ⟨h.os, h.tape, h.output, h.size, fun k hk _ => h.block k hk⟩
theorem own_below {w w' : World} {base : Nat} {e : TypeId} {size : Nat} {v : Value} {n : Nat} {xs : List Value} (h : w.ownsRow base e size v n xs) (hb : Below w.heap.size w w') : w'.ownsRow base e size v n xs :=
  h.kept (below_grown hb) (by cases hv : v.ownBlock <;> simp)
theorem news_block {W : World} {arr : Array Value} {t : TypeId} {g : Nat} (hg : g = W.heap.size) : ∀ j u, arr.toList[j]? = some u → (W.alloc (.cells arr t)).cell? (Addr.add ⟨g, 0, none⟩ j) = some u := by
  intro j u hu
  subst hg
  rw [Addr.add_lit, Nat.zero_add, cell_of_row _ W.heap.size j arr t (0, 0) (heap_alloc_new W _)]
  simpa using hu
theorem take_map_succ {α : Type} {f : Ch → α} {xs : List Ch} {k : Nat} {r : Ch} (h : xs[k]? = some r) : (xs.take (k + 1)).map f = (xs.take k).map f ++ [f r] := by
  rw [List.take_add_one, h]
  simp

set_option maxRecDepth 100000 in
set_option maxHeartbeats 4000000 in
theorem Back_ok (xs : List Ch) (A : Option Addr) (c : Nat) (w : World) (hr : RdC w A xs) (hl : xs.length ≤ 1172812402926) :
    Calls Try.prog 15 #[.slice A xs.length c] w fun e w' => (∃ v, e = .returned v ∧ w'.ownsRow w.heap.size 42 15 v xs.length ((xs.map bk).flatMap ccV)) ∧ Below w.heap.size w w' := by
  obtain ⟨n, hn⟩ : ∃ n, n = xs.length := ⟨_, rfl⟩
  rw [← hn] at hl
  have HN := Lib.hid hn
  have HR := Lib.hid hr
  rw [← hn]
  clear hn hr
  obtain ⟨i0, hi, hz0, hz1, hz2⟩ := info_parts info42
  go_enter Try.func15, Try.ntmps15
  go_wp2_with fail
  go_loopw [3, 8] (fun s i wr => ∃ k : Nat, k ≤ n ∧ i = .int .i64 k ∧ Hid (wr.ownsRow w.heap.size 42 15 s k (((xs.take k).map bk).flatMap ccV)) ∧ Hid (Below w.heap.size w wr)) (fun _ i _ => n - (intOf i).toNat)
  case atStart => exact ⟨0, Nat.zero_le _, rfl, Lib.hid (by simpa using World.ownsRow_nil w w.heap.size 42 15), Lib.hid (Below.refl _ _)⟩
  case round =>
    obtain ⟨k, hk, rfl, hown, hbw⟩ := hrel
    by_cases hlt : k < n
    · obtain ⟨r, hx⟩ : ∃ r, xs[k]? = some r := ⟨_, List.getElem?_eq_getElem (by rw [← HN.out]; exact hlt)⟩
      obtain ⟨b, o, rfl, ha⟩ := (HR.out.below hbw.out) k r hx
      have HT := Lib.hid (take_map_succ (f := bk) hx)
      clear hx
      obtain ⟨c0, c1, c2, c3, c4, c5, c6, c7, c8, c9, c10, c11, c12, c13, c14⟩ := ha
      have hwk : IntKind.i64.wrap (k : Int) = k := wrapk (by omega)
      have hk0 : (0 : Int) ≤ (k : Int) := by omega
      have hkn : (k : Int) < (n : Int) := by omega
      by_cases hk1 : r.k = 1
      · have t1 : (r.k == 1) = true := by simpa using hk1
        have hb1 : bk r = ⟨2, r.n, zR⟩ := by unfold bk; simp [hk1]
        have HB1 := Lib.hid hb1
        clear hb1 hk1
        go_wp2_with (at_builtin; refine wpList_append_own _ rfl (.tmp 32) (.tmp 34) 29 rfl w.heap.size 42 i0 _ 15 120 Try.underlying29 hi hz0 hz1 hz2 rfl (by decide) _ k _ rfl (own_below hown.out (by repeat (first | exact Below.refl _ _ | refine Below.alloc ?_ (by first | exact Nat.le_refl _ | (simp; done) | (simp; omega)) _))) ⟨wr.heap.size + 1, 0, none⟩ 1 1 (ccV ⟨2, r.n, zR⟩) rfl rfl (news_block (by simp)) (ccV_one _) (by unfold maxLen; omega) (by omega) (by have := hbw.out.size; simp; omega) ?_; intro v1 w1 hown1 hgrow1 hnil1)
        go_roundw
        case rel => exact ⟨k + 1, by omega, by go_num, Lib.hid (by rw [HT.out, List.flatMap_append, HB1.out]; simpa using hown1), Lib.hid ((hbw.out.trans (by repeat (first | exact Below.refl _ _ | refine Below.alloc ?_ (by have := hbw.out.size; first | omega | (simp; omega)) _))).grown hgrow1 (by have := hbw.out.size; simp; omega) (fun j hj => (hown.out.lt j hj).1))⟩
        case measure => simp [intOf]; omega
      · skip
        by_cases hk2 : r.k = 2
        · have t1 : (r.k == 1) = false := by simpa using hk1
          have t2 : (r.k == 2) = true := by simpa using hk2
          have hb1 : bk r = ⟨1, zR, r.o⟩ := by unfold bk; simp [hk1, hk2]
          have HB1 := Lib.hid hb1
          clear hb1 hk1 hk2
          go_wp2_with (at_builtin; refine wpList_append_own _ rfl (.tmp 32) (.tmp 34) 29 rfl w.heap.size 42 i0 _ 15 120 Try.underlying29 hi hz0 hz1 hz2 rfl (by decide) _ k _ rfl (own_below hown.out (by repeat (first | exact Below.refl _ _ | refine Below.alloc ?_ (by first | exact Nat.le_refl _ | (simp; done) | (simp; omega)) _))) ⟨wr.heap.size + 1, 0, none⟩ 1 1 (ccV ⟨1, zR, r.o⟩) rfl rfl (news_block (by simp)) (ccV_one _) (by unfold maxLen; omega) (by omega) (by have := hbw.out.size; simp; omega) ?_; intro v1 w1 hown1 hgrow1 hnil1)
          go_roundw
          case rel => exact ⟨k + 1, by omega, by go_num, Lib.hid (by rw [HT.out, List.flatMap_append, HB1.out]; simpa using hown1), Lib.hid ((hbw.out.trans (by repeat (first | exact Below.refl _ _ | refine Below.alloc ?_ (by have := hbw.out.size; first | omega | (simp; omega)) _))).grown hgrow1 (by have := hbw.out.size; simp; omega) (fun j hj => (hown.out.lt j hj).1))⟩
          case measure => simp [intOf]; omega
        · skip
          by_cases hk3 : r.k = 3
          · have t1 : (r.k == 1) = false := by simpa using hk1
            have t2 : (r.k == 2) = false := by simpa using hk2
            have t3 : (r.k == 3) = true := by simpa using hk3
            have hb1 : bk r = ⟨r.k, r.n, r.o⟩ := by unfold bk; simp [hk1, hk2, hk3]
            have HB1 := Lib.hid hb1
            clear hb1 hk1 hk2 hk3
            go_wp2_with (at_builtin; refine wpList_append_own _ rfl (.tmp 32) (.tmp 34) 29 rfl w.heap.size 42 i0 _ 15 120 Try.underlying29 hi hz0 hz1 hz2 rfl (by decide) _ k _ rfl (own_below hown.out (by repeat (first | exact Below.refl _ _ | refine Below.alloc ?_ (by first | exact Nat.le_refl _ | (simp; done) | (simp; omega)) _))) ⟨wr.heap.size + 1, 0, none⟩ 1 1 (ccV ⟨r.k, r.n, r.o⟩) rfl rfl (news_block (by simp)) (ccV_one _) (by unfold maxLen; omega) (by omega) (by have := hbw.out.size; simp; omega) ?_; intro v1 w1 hown1 hgrow1 hnil1)
            go_roundw
            case rel => exact ⟨k + 1, by omega, by go_num, Lib.hid (by rw [HT.out, List.flatMap_append, HB1.out]; simpa using hown1), Lib.hid ((hbw.out.trans (by repeat (first | exact Below.refl _ _ | refine Below.alloc ?_ (by have := hbw.out.size; first | omega | (simp; omega)) _))).grown hgrow1 (by have := hbw.out.size; simp; omega) (fun j hj => (hown.out.lt j hj).1))⟩
            case measure => simp [intOf]; omega
          · skip
            have t1 : (r.k == 1) = false := by simpa using hk1
            have t2 : (r.k == 2) = false := by simpa using hk2
            have t3 : (r.k == 3) = false := by simpa using hk3
            have hb1 : bk r = r := by unfold bk; simp [hk1, hk2, hk3]
            have HB1 := Lib.hid hb1
            clear hb1 hk1 hk2 hk3
            go_wp2_with (at_builtin; refine wpList_append_own _ rfl (.tmp 32) (.tmp 34) 29 rfl w.heap.size 42 i0 _ 15 120 Try.underlying29 hi hz0 hz1 hz2 rfl (by decide) _ k _ rfl (own_below hown.out (by repeat (first | exact Below.refl _ _ | refine Below.alloc ?_ (by first | exact Nat.le_refl _ | (simp; done) | (simp; omega)) _))) ⟨wr.heap.size + 1, 0, none⟩ 1 1 (ccV r) rfl rfl (news_block (by simp)) (ccV_one _) (by unfold maxLen; omega) (by omega) (by have := hbw.out.size; simp; omega) ?_; intro v1 w1 hown1 hgrow1 hnil1)
            go_roundw
            case rel => exact ⟨k + 1, by omega, by go_num, Lib.hid (by rw [HT.out, List.flatMap_append, HB1.out]; simpa using hown1), Lib.hid ((hbw.out.trans (by repeat (first | exact Below.refl _ _ | refine Below.alloc ?_ (by have := hbw.out.size; first | omega | (simp; omega)) _))).grown hgrow1 (by have := hbw.out.size; simp; omega) (fun j hj => (hown.out.lt j hj).1))⟩
            case measure => simp [intOf]; omega
    · have hkn : k = n := by omega
      subst hkn
      have HF := Lib.hid (show xs.take k = xs by rw [HN.out, List.take_length])
      go_wp2_with fail
      go_ret
      exact ⟨⟨_, rfl, by have := hown.out; rwa [HF.out] at this⟩, hbw.out⟩


end Go.Proofs.Ytpnhkniegjfncaa
