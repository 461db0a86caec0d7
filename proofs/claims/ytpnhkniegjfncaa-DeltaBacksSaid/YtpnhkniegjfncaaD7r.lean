/- The reference's Back turn each change about; conditions: the changes fit the memory. -/
import Derived.Test.YtpnhkniegjfncaaD7
namespace Go.Proofs.Ytpnhkniegjfncaa
open Go.ChangeShapes Go.WideShapes Go.ChangeAt Go.RowKit
set_option linter.unusedVariables false
set_option linter.unusedSimpArgs false
set_option maxRecDepth 100000 in
set_option maxHeartbeats 4000000 in
theorem rBack_ok (xs : List Ch) (A : Option Addr) (c : Nat) (w : World) (hr : RdC w A xs) (hl : xs.length ≤ 1172812402926) :
    Calls Try.prog 17 #[.slice A xs.length c] w fun e w' => (∃ v, e = .returned v ∧ w'.ownsRow w.heap.size 42 15 v xs.length ((xs.map bk).flatMap ccV)) ∧ Below w.heap.size w w' := by
  obtain ⟨n, hn⟩ : ∃ n, n = xs.length := ⟨_, rfl⟩
  rw [← hn] at hl
  have HN := Lib.hid hn
  have HR := Lib.hid hr
  rw [← hn]
  clear hn hr
  obtain ⟨i0, hi, hz0, hz1, hz2⟩ := info_parts info42
  go_enter Try.func17, Try.ntmps17
  go_wp2_with fail
  go_loopw [3, 4] (fun s i wr => ∃ k : Nat, k ≤ n ∧ i = .int .i64 k ∧ Hid (wr.ownsRow w.heap.size 42 15 s k (((xs.take k).map bk).flatMap ccV)) ∧ Hid (Below w.heap.size w wr)) (fun _ i _ => n - (intOf i).toNat)
  case atStart => exact ⟨0, Nat.zero_le _, rfl, Lib.hid (by simpa using fresh_row w 42 15 w.heap.size (Nat.le_refl _)), Lib.hid ((Below.refl _ _).alloc (Nat.le_refl _) _)⟩
  case round =>
    obtain ⟨k, hk, rfl, hown, hbw⟩ := hrel
    by_cases hlt : k < n
    · obtain ⟨r, hx⟩ : ∃ r, xs[k]? = some r := ⟨_, List.getElem?_eq_getElem (by rw [← HN.out]; exact hlt)⟩
      obtain ⟨b, o, rfl, ha⟩ := (HR.out.below hbw.out) k r hx
      have HT := Lib.hid (take_map_succ (f := bk) hx)
      clear hx
      obtain ⟨c0, c1, c2, c3, c4, c5, c6, c7, c8, c9, c10, c11, c12, c13, c14⟩ := ha
      have hwk : IntKind.i64.wrap (k : Int) = k := wrapk (by omega)
      have hk0 : (0 : Int) ≤ (k : Int) := by omega
      have hkn : (k : Int) < (n : Int) := by omega
      by_cases hk1 : r.k = 1
      · have t1 : (r.k == 1) = true := by simpa using hk1
        have hb1 : bk r = ⟨2, r.n, zR⟩ := by unfold bk; simp [hk1]
        have HB1 := Lib.hid hb1
        clear hb1 hk1
        go_wp2_with (at_builtin; refine wpList_append_own _ rfl (.tmp 36) (.tmp 38) 29 rfl w.heap.size 42 i0 _ 15 120 Try.underlying29 hi hz0 hz1 hz2 rfl (by decide) _ k _ rfl (own_below hown.out (by repeat (first | exact Below.refl _ _ | refine Below.alloc ?_ (by first | exact Nat.le_refl _ | (simp; done) | (simp; omega)) _))) ⟨wr.heap.size + 1, 0, none⟩ 1 1 (ccV ⟨2, r.n, zR⟩) rfl rfl (news_block (by simp)) (ccV_one _) (by unfold maxLen; omega) (by omega) (by have := hbw.out.size; simp; omega) ?_; intro v1 w1 hown1 hgrow1 hnil1)
        go_roundw
        case rel => exact ⟨k + 1, by omega, by go_num, Lib.hid (by rw [HT.out, List.flatMap_append, HB1.out]; simpa using hown1), Lib.hid ((hbw.out.trans (by repeat (first | exact Below.refl _ _ | refine Below.alloc ?_ (by have := hbw.out.size; first | omega | (simp; omega)) _))).grown hgrow1 (by have := hbw.out.size; simp; omega) (fun j hj => (hown.out.lt j hj).1))⟩
        case measure => simp [intOf]; omega
      · skip
        by_cases hk2 : r.k = 2
        · have t1 : (r.k == 1) = false := by simpa using hk1
          have t2 : (r.k == 2) = true := by simpa using hk2
          have hb1 : bk r = ⟨1, zR, r.o⟩ := by unfold bk; simp [hk1, hk2]
          have HB1 := Lib.hid hb1
          clear hb1 hk1 hk2
          go_wp2_with (at_builtin; refine wpList_append_own _ rfl (.tmp 36) (.tmp 38) 29 rfl w.heap.size 42 i0 _ 15 120 Try.underlying29 hi hz0 hz1 hz2 rfl (by decide) _ k _ rfl (own_below hown.out (by repeat (first | exact Below.refl _ _ | refine Below.alloc ?_ (by first | exact Nat.le_refl _ | (simp; done) | (simp; omega)) _))) ⟨wr.heap.size + 1, 0, none⟩ 1 1 (ccV ⟨1, zR, r.o⟩) rfl rfl (news_block (by simp)) (ccV_one _) (by unfold maxLen; omega) (by omega) (by have := hbw.out.size; simp; omega) ?_; intro v1 w1 hown1 hgrow1 hnil1)
          go_roundw
          case rel => exact ⟨k + 1, by omega, by go_num, Lib.hid (by rw [HT.out, List.flatMap_append, HB1.out]; simpa using hown1), Lib.hid ((hbw.out.trans (by repeat (first | exact Below.refl _ _ | refine Below.alloc ?_ (by have := hbw.out.size; first | omega | (simp; omega)) _))).grown hgrow1 (by have := hbw.out.size; simp; omega) (fun j hj => (hown.out.lt j hj).1))⟩
          case measure => simp [intOf]; omega
        · skip
          by_cases hk3 : r.k = 3
          · have t1 : (r.k == 1) = false := by simpa using hk1
            have t2 : (r.k == 2) = false := by simpa using hk2
            have t3 : (r.k == 3) = true := by simpa using hk3
            have hb1 : bk r = ⟨3, r.n, r.o⟩ := by unfold bk; simp [hk1, hk2, hk3]
            have HB1 := Lib.hid hb1
            clear hb1 hk1 hk2 hk3
            go_wp2_with (at_builtin; refine wpList_append_own _ rfl (.tmp 36) (.tmp 38) 29 rfl w.heap.size 42 i0 _ 15 120 Try.underlying29 hi hz0 hz1 hz2 rfl (by decide) _ k _ rfl (own_below hown.out (by repeat (first | exact Below.refl _ _ | refine Below.alloc ?_ (by first | exact Nat.le_refl _ | (simp; done) | (simp; omega)) _))) ⟨wr.heap.size + 1, 0, none⟩ 1 1 (ccV ⟨3, r.n, r.o⟩) rfl rfl (news_block (by simp)) (ccV_one _) (by unfold maxLen; omega) (by omega) (by have := hbw.out.size; simp; omega) ?_; intro v1 w1 hown1 hgrow1 hnil1)
            go_roundw
            case rel => exact ⟨k + 1, by omega, by go_num, Lib.hid (by rw [HT.out, List.flatMap_append, HB1.out]; simpa using hown1), Lib.hid ((hbw.out.trans (by repeat (first | exact Below.refl _ _ | refine Below.alloc ?_ (by have := hbw.out.size; first | omega | (simp; omega)) _))).grown hgrow1 (by have := hbw.out.size; simp; omega) (fun j hj => (hown.out.lt j hj).1))⟩
            case measure => simp [intOf]; omega
          · skip
            have t1 : (r.k == 1) = false := by simpa using hk1
            have t2 : (r.k == 2) = false := by simpa using hk2
            have t3 : (r.k == 3) = false := by simpa using hk3
            have hb1 : bk r = r := by unfold bk; simp [hk1, hk2, hk3]
            have HB1 := Lib.hid hb1
            clear hb1 hk1 hk2 hk3
            go_wp2_with (at_builtin; refine wpList_append_own _ rfl (.tmp 36) (.tmp 38) 29 rfl w.heap.size 42 i0 _ 15 120 Try.underlying29 hi hz0 hz1 hz2 rfl (by decide) _ k _ rfl (own_below hown.out (by repeat (first | exact Below.refl _ _ | refine Below.alloc ?_ (by first | exact Nat.le_refl _ | (simp; done) | (simp; omega)) _))) ⟨wr.heap.size + 1, 0, none⟩ 1 1 (ccV r) rfl rfl (news_block (by simp)) (ccV_one _) (by unfold maxLen; omega) (by omega) (by have := hbw.out.size; simp; omega) ?_; intro v1 w1 hown1 hgrow1 hnil1)
            go_roundw
            case rel => exact ⟨k + 1, by omega, by go_num, Lib.hid (by rw [HT.out, List.flatMap_append, HB1.out]; simpa using hown1), Lib.hid ((hbw.out.trans (by repeat (first | exact Below.refl _ _ | refine Below.alloc ?_ (by have := hbw.out.size; first | omega | (simp; omega)) _))).grown hgrow1 (by have := hbw.out.size; simp; omega) (fun j hj => (hown.out.lt j hj).1))⟩
            case measure => simp [intOf]; omega
    · have hkn : k = n := by omega
      subst hkn
      have HF := Lib.hid (show xs.take k = xs by rw [HN.out, List.take_length])
      go_wp2_with fail
      go_ret
      exact ⟨⟨_, rfl, by have := hown.out; rwa [HF.out] at this⟩, hbw.out⟩

end Go.Proofs.Ytpnhkniegjfncaa
