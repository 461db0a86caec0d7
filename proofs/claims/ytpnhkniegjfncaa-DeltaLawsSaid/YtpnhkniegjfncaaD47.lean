/- DeltaLaws: it answers true; conditions: the tables fit the memory. -/
import Derived.Test.YtpnhkniegjfncaaD46
import Derived.Test.YtpnhkniegjfncaaD44
import Derived.Test.YtpnhkniegjfncaaD16
import Derived.Test.YtpnhkniegjfncaaD7
namespace Go.Proofs.Ytpnhkniegjfncaa
open Go.ChangeShapes Go.WideShapes Go.ChangeAt Go.RowKit
set_option linter.unusedVariables false
set_option linter.unusedSimpArgs false
attribute [local go_sem] Og.Opt Og.OpY

/-- what the law's own all gives -/
def allV (xs ys : List Ro) : List Ch := if sndT xs && sndT ys then mrgK xs ys else []
def Fits (xs : List Ro) : Prop := xs.length ≤ 2513169434843 ∧ ∀ (i : Nat) r, xs[i]? = some r → FitR r
def FitsC (xs : List Ch) : Prop := xs.length ≤ 1172812402926 ∧ ∀ (i : Nat) r, xs[i]? = some r → FitC r
theorem SlR.zero {B : Nat} {w : World} {v : Value} {xs : List Ro} (h : SlR B w v xs) : SlR 0 w v xs := h.mono (Nat.zero_le _)
theorem SlC.zero {B : Nat} {w : World} {v : Value} {xs : List Ch} (h : SlC B w v xs) : SlC 0 w v xs := h.mono (Nat.zero_le _)
theorem all_sl {xs ys : List Ro} (h1 : Fits xs) (h2 : Fits ys) {v v' : Value} {w : World} (s1 : SlR 0 w v xs) (s2 : SlR 0 w v' ys) :
    Calls Try.prog 13 #[v, v'] w fun e w' => (∃ y, e = .returned (.tuple #[y, .int .i64 (errT (sndT xs && sndT ys))]) ∧ SlC 0 w' y (allV xs ys)) ∧ Below w.heap.size w w' := by
  obtain ⟨A, c, rfl, r1, n1, _⟩ := s1
  obtain ⟨A', c', rfl, r2, n2, _⟩ := s2
  unfold allV
  cases h : (sndT xs && sndT ys) with
  | true =>
    have hs := h
    simp only [Bool.and_eq_true] at hs
    refine (all_yes xs ys A A' c c' w r1 r2 n1 n2 h1.1 h2.1 h (by have := mrgK_len xs ys; have := sndT_len hs.1 h1.2; have := sndT_len hs.2 h2.2; omega)).mono ?_
    rintro e w' ⟨⟨y, rfl, s⟩, hb⟩
    exact ⟨⟨y, rfl, s.zero⟩, hb⟩
  | false =>
    refine (all_no xs ys A A' c c' w r1 r2 n1 n2 h1.1 h2.1 h).mono ?_
    rintro e w' ⟨⟨y, rfl, s⟩, hb⟩
    exact ⟨⟨y, rfl, s.zero⟩, hb⟩
theorem apply_sl {t0 : List Ro} {xs : List Ch} (h1 : Fits t0) (h2 : FitsC xs) {v v' : Value} {w : World} (s1 : SlR 0 w v t0) (s2 : SlC 0 w v' xs) :
    Calls Try.prog 20 #[v, v'] w fun e w' => (∃ y, e = .returned (.tuple #[y, .int .i64 ((applyV t0 xs).2.1 : Nat), .int .i64 (applyV t0 xs).2.2]) ∧ SlR 0 w' y (applyV t0 xs).1) ∧ Below w.heap.size w w' := by
  obtain ⟨A, c, rfl, r1, n1, _⟩ := s1
  obtain ⟨A', c', rfl, r2, n2, _⟩ := s2
  refine (Apply_ok t0 xs A A' c c' w r1 r2 n1 h1.1 h2.1 h1.2 h2.2).mono ?_
  rintro e w' ⟨⟨y, rfl, s⟩, hb⟩
  exact ⟨⟨y, rfl, (SlR_of_row s rfl).zero⟩, hb⟩
theorem back_sl {xs : List Ch} (h1 : FitsC xs) {v : Value} {w : World} (s1 : SlC 0 w v xs) :
    Calls Try.prog 15 #[v] w fun e w' => (∃ y, e = .returned y ∧ SlC 0 w' y (xs.map bk)) ∧ Below w.heap.size w w' := by
  obtain ⟨A, c, rfl, r1, n1, _⟩ := s1
  refine (Back_ok xs A c w r1 h1.1).mono ?_
  rintro e w' ⟨⟨y, rfl, s⟩, hb⟩
  exact ⟨⟨y, rfl, (SlC_of_row s (by simp)).zero⟩, hb⟩
theorem join_sl {xs ys : List Ch} (h1 : FitsC xs) (h2 : FitsC ys) {v v' : Value} {w : World} (s1 : SlC 0 w v xs) (s2 : SlC 0 w v' ys) :
    Calls Try.prog 18 #[v, v'] w fun e w' => (∃ y, e = .returned (.tuple #[y, .int .i64 (joinV xs ys).2]) ∧ SlC 0 w' y (joinV xs ys).1) ∧ Below w.heap.size w w' := by
  obtain ⟨A, c, rfl, r1, n1, _, l1⟩ := s1
  obtain ⟨A', c', rfl, r2, n2, _, l2⟩ := s2
  refine (Join_ok xs ys A A' c c' w r1 r2 l1 l2 h1.1 h2.1 h1.2 h2.2).mono ?_
  rintro e w' ⟨hj, hb⟩
  obtain ⟨y, rfl, s⟩ := hj.val
  exact ⟨⟨y, rfl, s.zero⟩, hb⟩
theorem sound_sl {xs : List Ro} (h1 : Fits xs) {v : Value} {w : World} (s1 : SlR 0 w v xs) :
    Calls Try.prog 14 #[v] w fun e w' => e = .returned (.int .i64 (errT (sndT xs))) ∧ Below w.heap.size w w' := by
  obtain ⟨A, c, rfl, r1, n1, _⟩ := s1
  exact rSound_ok xs A c w r1 (by have := h1.1; omega) h1.2

set_option maxRecDepth 100000 in
set_option maxHeartbeats 8000000 in
theorem DeltaLaws_ok (a b c : List Ro) (va vb vc : Value) (w : World) (fa : Fits a) (fb : Fits b) (fc : Fits c) (sa : SlR 0 w va a) (sb : SlR 0 w vb b) (sc : SlR 0 w vc c) :
    Calls Try.prog 8 #[va, vb, vc] w fun e w' => e = .returned (.bool true) ∧ Below w.heap.size w w' := by
  have FA := Lib.hid fa
  have FB := Lib.hid fb
  have FC := Lib.hid fc
  have SA := Lib.hid sa
  have SB := Lib.hid sb
  have SC := Lib.hid sc
  have B := Lib.hid (Below.refl w.heap.size w)
  clear fa fb fc sa sb sc
  go_enter Try.func8, Try.ntmps8
  go_wp2_with fail
  refine Calls.mono (awake_ok w) ?_
  rintro e w1 ⟨rfl, hb⟩
  replace SA := Lib.hid (SA.out.below hb)
  replace SB := Lib.hid (SB.out.below hb)
  replace SC := Lib.hid (SC.out.below hb)
  replace B := Lib.hid (bthen' B.out B.out.size hb)
  clear hb
  go_wp2_with fail
  refine Calls.mono (all_sl FA.out FB.out SA.out SB.out) ?_
  rintro e w2 ⟨⟨v1, rfl, s1⟩, hb⟩
  replace SA := Lib.hid (SA.out.below hb)
  replace SB := Lib.hid (SB.out.below hb)
  replace SC := Lib.hid (SC.out.below hb)
  replace B := Lib.hid (bthen' B.out B.out.size hb)
  have S1 := Lib.hid s1
  clear hb s1
  go_wp2_with fail
  refine Calls.mono (all_sl FB.out FC.out SB.out SC.out) ?_
  rintro e w3 ⟨⟨v2, rfl, s2⟩, hb⟩
  replace SA := Lib.hid (SA.out.below hb)
  replace SB := Lib.hid (SB.out.below hb)
  replace SC := Lib.hid (SC.out.below hb)
  replace S1 := Lib.hid (S1.out.below hb)
  replace B := Lib.hid (bthen' B.out B.out.size hb)
  have S2 := Lib.hid s2
  clear hb s2
  go_wp2_with fail
  refine Calls.mono (all_sl FA.out FC.out SA.out SC.out) ?_
  rintro e w4 ⟨⟨v3, rfl, s3⟩, hb⟩
  replace SA := Lib.hid (SA.out.below hb)
  replace SB := Lib.hid (SB.out.below hb)
  replace SC := Lib.hid (SC.out.below hb)
  replace S1 := Lib.hid (S1.out.below hb)
  replace S2 := Lib.hid (S2.out.below hb)
  replace B := Lib.hid (bthen' B.out B.out.size hb)
  have S3 := Lib.hid s3
  clear hb s3
  cases ha : sndT a with
  | false =>
    cases hb : sndT b with
    | false =>
      cases hc : sndT c with
      | false =>
        simp only [Bool.and_true, Bool.and_false, Bool.true_and, Bool.false_and, errT_t, errT_f]
        have EA := Lib.hid ha
        have EB := Lib.hid hb
        have EC := Lib.hid hc
        clear ha hb hc
        go_wp2_with fail
        refine Calls.mono (sound_sl FA.out SA.out) ?_
        rintro e w5 ⟨rfl, hb⟩
        replace SA := Lib.hid (SA.out.below hb)
        replace SB := Lib.hid (SB.out.below hb)
        replace SC := Lib.hid (SC.out.below hb)
        replace S1 := Lib.hid (S1.out.below hb)
        replace S2 := Lib.hid (S2.out.below hb)
        replace S3 := Lib.hid (S3.out.below hb)
        replace B := Lib.hid (bthen' B.out B.out.size hb)
        clear hb
        rw [EA.out]
        simp only [errT_t, errT_f]
        go_wp2_with fail
        go_ret
        exact ⟨rfl, B.out⟩
      | true =>
        simp only [Bool.and_true, Bool.and_false, Bool.true_and, Bool.false_and, errT_t, errT_f]
        have EA := Lib.hid ha
        have EB := Lib.hid hb
        have EC := Lib.hid hc
        clear ha hb hc
        go_wp2_with fail
        refine Calls.mono (sound_sl FA.out SA.out) ?_
        rintro e w5 ⟨rfl, hb⟩
        replace SA := Lib.hid (SA.out.below hb)
        replace SB := Lib.hid (SB.out.below hb)
        replace SC := Lib.hid (SC.out.below hb)
        replace S1 := Lib.hid (S1.out.below hb)
        replace S2 := Lib.hid (S2.out.below hb)
        replace S3 := Lib.hid (S3.out.below hb)
        replace B := Lib.hid (bthen' B.out B.out.size hb)
        clear hb
        rw [EA.out]
        simp only [errT_t, errT_f]
        go_wp2_with fail
        go_ret
        exact ⟨rfl, B.out⟩
    | true =>
      cases hc : sndT c with
      | false =>
        simp only [Bool.and_true, Bool.and_false, Bool.true_and, Bool.false_and, errT_t, errT_f]
        have EA := Lib.hid ha
        have EB := Lib.hid hb
        have EC := Lib.hid hc
        clear ha hb hc
        go_wp2_with fail
        refine Calls.mono (sound_sl FA.out SA.out) ?_
        rintro e w5 ⟨rfl, hb⟩
        replace SA := Lib.hid (SA.out.below hb)
        replace SB := Lib.hid (SB.out.below hb)
        replace SC := Lib.hid (SC.out.below hb)
        replace S1 := Lib.hid (S1.out.below hb)
        replace S2 := Lib.hid (S2.out.below hb)
        replace S3 := Lib.hid (S3.out.below hb)
        replace B := Lib.hid (bthen' B.out B.out.size hb)
        clear hb
        rw [EA.out]
        simp only [errT_t, errT_f]
        go_wp2_with fail
        go_ret
        exact ⟨rfl, B.out⟩
      | true =>
        simp only [Bool.and_true, Bool.and_false, Bool.true_and, Bool.false_and, errT_t, errT_f]
        have EA := Lib.hid ha
        have EB := Lib.hid hb
        have EC := Lib.hid hc
        clear ha hb hc
        go_wp2_with fail
        refine Calls.mono (sound_sl FA.out SA.out) ?_
        rintro e w5 ⟨rfl, hb⟩
        replace SA := Lib.hid (SA.out.below hb)
        replace SB := Lib.hid (SB.out.below hb)
        replace SC := Lib.hid (SC.out.below hb)
        replace S1 := Lib.hid (S1.out.below hb)
        replace S2 := Lib.hid (S2.out.below hb)
        replace S3 := Lib.hid (S3.out.below hb)
        replace B := Lib.hid (bthen' B.out B.out.size hb)
        clear hb
        rw [EA.out]
        simp only [errT_t, errT_f]
        go_wp2_with fail
        go_ret
        exact ⟨rfl, B.out⟩
  | true =>
    cases hb : sndT b with
    | false =>
      cases hc : sndT c with
      | false =>
        simp only [Bool.and_true, Bool.and_false, Bool.true_and, Bool.false_and, errT_t, errT_f]
        have EA := Lib.hid ha
        have EB := Lib.hid hb
        have EC := Lib.hid hc
        clear ha hb hc
        go_wp2_with fail
        refine Calls.mono (sound_sl FA.out SA.out) ?_
        rintro e w5 ⟨rfl, hb⟩
        replace SA := Lib.hid (SA.out.below hb)
        replace SB := Lib.hid (SB.out.below hb)
        replace SC := Lib.hid (SC.out.below hb)
        replace S1 := Lib.hid (S1.out.below hb)
        replace S2 := Lib.hid (S2.out.below hb)
        replace S3 := Lib.hid (S3.out.below hb)
        replace B := Lib.hid (bthen' B.out B.out.size hb)
        clear hb
        rw [EA.out]
        simp only [errT_t, errT_f]
        go_wp2_with fail
        refine Calls.mono (sound_sl FB.out SB.out) ?_
        rintro e w6 ⟨rfl, hb⟩
        replace SA := Lib.hid (SA.out.below hb)
        replace SB := Lib.hid (SB.out.below hb)
        replace SC := Lib.hid (SC.out.below hb)
        replace S1 := Lib.hid (S1.out.below hb)
        replace S2 := Lib.hid (S2.out.below hb)
        replace S3 := Lib.hid (S3.out.below hb)
        replace B := Lib.hid (bthen' B.out B.out.size hb)
        clear hb
        rw [EB.out]
        simp only [errT_t, errT_f]
        go_wp2_with fail
        go_ret
        exact ⟨rfl, B.out⟩
      | true =>
        simp only [Bool.and_true, Bool.and_false, Bool.true_and, Bool.false_and, errT_t, errT_f]
        have EA := Lib.hid ha
        have EB := Lib.hid hb
        have EC := Lib.hid hc
        clear ha hb hc
        go_wp2_with fail
        refine Calls.mono (sound_sl FA.out SA.out) ?_
        rintro e w5 ⟨rfl, hb⟩
        replace SA := Lib.hid (SA.out.below hb)
        replace SB := Lib.hid (SB.out.below hb)
        replace SC := Lib.hid (SC.out.below hb)
        replace S1 := Lib.hid (S1.out.below hb)
        replace S2 := Lib.hid (S2.out.below hb)
        replace S3 := Lib.hid (S3.out.below hb)
        replace B := Lib.hid (bthen' B.out B.out.size hb)
        clear hb
        rw [EA.out]
        simp only [errT_t, errT_f]
        go_wp2_with fail
        refine Calls.mono (sound_sl FB.out SB.out) ?_
        rintro e w6 ⟨rfl, hb⟩
        replace SA := Lib.hid (SA.out.below hb)
        replace SB := Lib.hid (SB.out.below hb)
        replace SC := Lib.hid (SC.out.below hb)
        replace S1 := Lib.hid (S1.out.below hb)
        replace S2 := Lib.hid (S2.out.below hb)
        replace S3 := Lib.hid (S3.out.below hb)
        replace B := Lib.hid (bthen' B.out B.out.size hb)
        clear hb
        rw [EB.out]
        simp only [errT_t, errT_f]
        go_wp2_with fail
        go_ret
        exact ⟨rfl, B.out⟩
    | true =>
      cases hc : sndT c with
      | false =>
        simp only [Bool.and_true, Bool.and_false, Bool.true_and, Bool.false_and, errT_t, errT_f]
        have EA := Lib.hid ha
        have EB := Lib.hid hb
        have EC := Lib.hid hc
        clear ha hb hc
        go_wp2_with fail
        refine Calls.mono (sound_sl FA.out SA.out) ?_
        rintro e w5 ⟨rfl, hb⟩
        replace SA := Lib.hid (SA.out.below hb)
        replace SB := Lib.hid (SB.out.below hb)
        replace SC := Lib.hid (SC.out.below hb)
        replace S1 := Lib.hid (S1.out.below hb)
        replace S2 := Lib.hid (S2.out.below hb)
        replace S3 := Lib.hid (S3.out.below hb)
        replace B := Lib.hid (bthen' B.out B.out.size hb)
        clear hb
        rw [EA.out]
        simp only [errT_t, errT_f]
        go_wp2_with fail
        refine Calls.mono (sound_sl FB.out SB.out) ?_
        rintro e w6 ⟨rfl, hb⟩
        replace SA := Lib.hid (SA.out.below hb)
        replace SB := Lib.hid (SB.out.below hb)
        replace SC := Lib.hid (SC.out.below hb)
        replace S1 := Lib.hid (S1.out.below hb)
        replace S2 := Lib.hid (S2.out.below hb)
        replace S3 := Lib.hid (S3.out.below hb)
        replace B := Lib.hid (bthen' B.out B.out.size hb)
        clear hb
        rw [EB.out]
        simp only [errT_t, errT_f]
        go_wp2_with fail
        refine Calls.mono (sound_sl FC.out SC.out) ?_
        rintro e w7 ⟨rfl, hb⟩
        replace SA := Lib.hid (SA.out.below hb)
        replace SB := Lib.hid (SB.out.below hb)
        replace SC := Lib.hid (SC.out.below hb)
        replace S1 := Lib.hid (S1.out.below hb)
        replace S2 := Lib.hid (S2.out.below hb)
        replace S3 := Lib.hid (S3.out.below hb)
        replace B := Lib.hid (bthen' B.out B.out.size hb)
        clear hb
        rw [EC.out]
        simp only [errT_t, errT_f]
        go_wp2_with fail
        go_ret
        exact ⟨rfl, B.out⟩
      | true =>
        have TA := Lib.hid (Tab.of ha FA.out.2)
        have TB := Lib.hid (Tab.of hb FB.out.2)
        have TC := Lib.hid (Tab.of hc FC.out.2)
        replace S1 := Lib.hid (show SlC 0 w4 _ (mrgK a b) by have := S1.out; unfold allV at this; rw [ha, hb] at this; exact this)
        replace S2 := Lib.hid (show SlC 0 w4 _ (mrgK b c) by have := S2.out; unfold allV at this; rw [hb, hc] at this; exact this)
        replace S3 := Lib.hid (show SlC 0 w4 _ (mrgK a c) by have := S3.out; unfold allV at this; rw [ha, hc] at this; exact this)
        have EA := Lib.hid (show (sndT a && sndT a) = true by rw [ha]; rfl)
        clear ha hb hc
        simp only [Bool.and_true, Bool.and_false, Bool.true_and, Bool.false_and, errT_t, errT_f]
        have F1 : Hid (FitsC (mrgK a b)) := Lib.hid ⟨by have := mrgK_len a b; have := TA.out.len; have := TB.out.len; omega, fun i r hr => ((mrgK_snd a b TA.out TB.out).2.1 r (List.mem_of_getElem? hr)).2⟩
        have F2 : Hid (FitsC (mrgK b c)) := Lib.hid ⟨by have := mrgK_len b c; have := TB.out.len; have := TC.out.len; omega, fun i r hr => ((mrgK_snd b c TB.out TC.out).2.1 r (List.mem_of_getElem? hr)).2⟩
        have F3 : Hid (FitsC (mrgK a c)) := Lib.hid ⟨by have := mrgK_len a c; have := TA.out.len; have := TC.out.len; omega, fun i r hr => ((mrgK_snd a c TA.out TC.out).2.1 r (List.mem_of_getElem? hr)).2⟩
        have FB1 : Hid (FitsC ((mrgK a b).map bk)) := Lib.hid ⟨by rw [List.length_map]; exact F1.out.1, back_fit TA.out TB.out⟩
        go_wp2_with fail
        refine Calls.mono (apply_sl FA.out F1.out SA.out S1.out) ?_
        rintro e w5 ⟨⟨v4, rfl, s4⟩, hb⟩
        replace SA := Lib.hid (SA.out.below hb)
        replace SB := Lib.hid (SB.out.below hb)
        replace SC := Lib.hid (SC.out.below hb)
        replace S1 := Lib.hid (S1.out.below hb)
        replace S2 := Lib.hid (S2.out.below hb)
        replace S3 := Lib.hid (S3.out.below hb)
        replace B := Lib.hid (bthen' B.out B.out.size hb)
        have S4 := Lib.hid s4
        clear hb s4
        replace S4 := Lib.hid (show SlR 0 w5 _ b by have := S4.out; rw [apply_mrgK TA.out TB.out] at this; exact this)
        simp only [apply_mrgK TA.out TB.out]
        go_wp2_with fail
        refine Calls.mono (back_sl F1.out S1.out) ?_
        rintro e w6 ⟨⟨v5, rfl, s5⟩, hb⟩
        replace SA := Lib.hid (SA.out.below hb)
        replace SB := Lib.hid (SB.out.below hb)
        replace SC := Lib.hid (SC.out.below hb)
        replace S1 := Lib.hid (S1.out.below hb)
        replace S2 := Lib.hid (S2.out.below hb)
        replace S3 := Lib.hid (S3.out.below hb)
        replace S4 := Lib.hid (S4.out.below hb)
        replace B := Lib.hid (bthen' B.out B.out.size hb)
        have S5 := Lib.hid s5
        clear hb s5
        go_wp2_with fail
        refine Calls.mono (apply_sl FB.out FB1.out SB.out S5.out) ?_
        rintro e w7 ⟨⟨v6, rfl, s6⟩, hb⟩
        replace SA := Lib.hid (SA.out.below hb)
        replace SB := Lib.hid (SB.out.below hb)
        replace SC := Lib.hid (SC.out.below hb)
        replace S1 := Lib.hid (S1.out.below hb)
        replace S2 := Lib.hid (S2.out.below hb)
        replace S3 := Lib.hid (S3.out.below hb)
        replace S4 := Lib.hid (S4.out.below hb)
        replace S5 := Lib.hid (S5.out.below hb)
        replace B := Lib.hid (bthen' B.out B.out.size hb)
        have S6 := Lib.hid s6
        clear hb s6
        replace S6 := Lib.hid (show SlR 0 w7 _ a by have := S6.out; rw [apply_back TA.out TB.out] at this; exact this)
        simp only [apply_back TA.out TB.out]
        go_wp2_with fail
        refine Calls.mono (join_sl F1.out F2.out S1.out S2.out) ?_
        rintro e w8 ⟨⟨v7, rfl, s7⟩, hb⟩
        replace SA := Lib.hid (SA.out.below hb)
        replace SB := Lib.hid (SB.out.below hb)
        replace SC := Lib.hid (SC.out.below hb)
        replace S1 := Lib.hid (S1.out.below hb)
        replace S2 := Lib.hid (S2.out.below hb)
        replace S3 := Lib.hid (S3.out.below hb)
        replace S4 := Lib.hid (S4.out.below hb)
        replace S5 := Lib.hid (S5.out.below hb)
        replace S6 := Lib.hid (S6.out.below hb)
        replace B := Lib.hid (bthen' B.out B.out.size hb)
        have S7 := Lib.hid s7
        clear hb s7
        replace S7 := Lib.hid (show SlC 0 w8 _ (mrgK a c) by have := S7.out; rw [join_mrgK TA.out TB.out TC.out] at this; exact this)
        simp only [join_mrgK TA.out TB.out TC.out]
        go_wp2_with fail
        refine Calls.mono (back_sl F1.out S1.out) ?_
        rintro e w9 ⟨⟨v8, rfl, s8⟩, hb⟩
        replace SA := Lib.hid (SA.out.below hb)
        replace SB := Lib.hid (SB.out.below hb)
        replace SC := Lib.hid (SC.out.below hb)
        replace S1 := Lib.hid (S1.out.below hb)
        replace S2 := Lib.hid (S2.out.below hb)
        replace S3 := Lib.hid (S3.out.below hb)
        replace S4 := Lib.hid (S4.out.below hb)
        replace S5 := Lib.hid (S5.out.below hb)
        replace S6 := Lib.hid (S6.out.below hb)
        replace S7 := Lib.hid (S7.out.below hb)
        replace B := Lib.hid (bthen' B.out B.out.size hb)
        have S8 := Lib.hid s8
        clear hb s8
        go_wp2_with fail
        refine Calls.mono (join_sl F1.out FB1.out S1.out S8.out) ?_
        rintro e w10 ⟨⟨v9, rfl, s9⟩, hb⟩
        replace SA := Lib.hid (SA.out.below hb)
        replace SB := Lib.hid (SB.out.below hb)
        replace SC := Lib.hid (SC.out.below hb)
        replace S1 := Lib.hid (S1.out.below hb)
        replace S2 := Lib.hid (S2.out.below hb)
        replace S3 := Lib.hid (S3.out.below hb)
        replace S4 := Lib.hid (S4.out.below hb)
        replace S5 := Lib.hid (S5.out.below hb)
        replace S6 := Lib.hid (S6.out.below hb)
        replace S7 := Lib.hid (S7.out.below hb)
        replace S8 := Lib.hid (S8.out.below hb)
        replace B := Lib.hid (bthen' B.out B.out.size hb)
        have S9 := Lib.hid s9
        clear hb s9
        replace S9 := Lib.hid (show SlC 0 w10 _ [] by have := S9.out; rw [join_back TA.out TB.out] at this; exact this)
        simp only [join_back TA.out TB.out]
        go_wp2_with fail
        refine Calls.mono (all_sl FA.out FA.out SA.out SA.out) ?_
        rintro e w11 ⟨⟨v10, rfl, s10⟩, hb⟩
        replace SA := Lib.hid (SA.out.below hb)
        replace SB := Lib.hid (SB.out.below hb)
        replace SC := Lib.hid (SC.out.below hb)
        replace S1 := Lib.hid (S1.out.below hb)
        replace S2 := Lib.hid (S2.out.below hb)
        replace S3 := Lib.hid (S3.out.below hb)
        replace S4 := Lib.hid (S4.out.below hb)
        replace S5 := Lib.hid (S5.out.below hb)
        replace S6 := Lib.hid (S6.out.below hb)
        replace S7 := Lib.hid (S7.out.below hb)
        replace S8 := Lib.hid (S8.out.below hb)
        replace S9 := Lib.hid (S9.out.below hb)
        replace B := Lib.hid (bthen' B.out B.out.size hb)
        have S10 := Lib.hid s10
        clear hb s10
        replace S10 := Lib.hid (show SlC 0 w11 _ [] by have := S10.out; unfold allV at this; rw [EA.out, mrgK_self] at this; exact this)
        rw [EA.out]
        simp only [errT_t]
        obtain ⟨A9, c9, hv9, _⟩ := S9.out
        obtain ⟨A10, c10, hv10, _⟩ := S10.out
        simp only [List.length_nil] at hv9 hv10
        subst hv9 hv10
        go_wp2_with fail
        refine Calls.mono (sameR_sl b _ _ 0 0 w11 S4.out SB.out (by have := FB.out.1; omega)) ?_
        rintro e w12 ⟨rfl, hb⟩
        replace SA := Lib.hid (SA.out.below hb)
        replace SB := Lib.hid (SB.out.below hb)
        replace SC := Lib.hid (SC.out.below hb)
        replace S1 := Lib.hid (S1.out.below hb)
        replace S2 := Lib.hid (S2.out.below hb)
        replace S3 := Lib.hid (S3.out.below hb)
        replace S4 := Lib.hid (S4.out.below hb)
        replace S5 := Lib.hid (S5.out.below hb)
        replace S6 := Lib.hid (S6.out.below hb)
        replace S7 := Lib.hid (S7.out.below hb)
        replace S8 := Lib.hid (S8.out.below hb)
        replace S9 := Lib.hid (S9.out.below hb)
        replace S10 := Lib.hid (S10.out.below hb)
        replace B := Lib.hid (bthen' B.out B.out.size hb)
        clear hb
        go_wp2_with fail
        refine Calls.mono (sameR_sl a _ _ 0 0 w12 S6.out SA.out (by have := FA.out.1; omega)) ?_
        rintro e w13 ⟨rfl, hb⟩
        replace SA := Lib.hid (SA.out.below hb)
        replace SB := Lib.hid (SB.out.below hb)
        replace SC := Lib.hid (SC.out.below hb)
        replace S1 := Lib.hid (S1.out.below hb)
        replace S2 := Lib.hid (S2.out.below hb)
        replace S3 := Lib.hid (S3.out.below hb)
        replace S4 := Lib.hid (S4.out.below hb)
        replace S5 := Lib.hid (S5.out.below hb)
        replace S6 := Lib.hid (S6.out.below hb)
        replace S7 := Lib.hid (S7.out.below hb)
        replace S8 := Lib.hid (S8.out.below hb)
        replace S9 := Lib.hid (S9.out.below hb)
        replace S10 := Lib.hid (S10.out.below hb)
        replace B := Lib.hid (bthen' B.out B.out.size hb)
        clear hb
        go_wp2_with fail
        refine Calls.mono (sameC_sl (mrgK a c) _ _ 0 0 w13 S7.out S3.out (by have := F3.out.1; omega)) ?_
        rintro e w14 ⟨rfl, hb⟩
        replace SA := Lib.hid (SA.out.below hb)
        replace SB := Lib.hid (SB.out.below hb)
        replace SC := Lib.hid (SC.out.below hb)
        replace S1 := Lib.hid (S1.out.below hb)
        replace S2 := Lib.hid (S2.out.below hb)
        replace S3 := Lib.hid (S3.out.below hb)
        replace S4 := Lib.hid (S4.out.below hb)
        replace S5 := Lib.hid (S5.out.below hb)
        replace S6 := Lib.hid (S6.out.below hb)
        replace S7 := Lib.hid (S7.out.below hb)
        replace S8 := Lib.hid (S8.out.below hb)
        replace S9 := Lib.hid (S9.out.below hb)
        replace S10 := Lib.hid (S10.out.below hb)
        replace B := Lib.hid (bthen' B.out B.out.size hb)
        clear hb
        go_wp2_with fail
        go_ret
        exact ⟨rfl, B.out⟩

end Go.Proofs.Ytpnhkniegjfncaa
