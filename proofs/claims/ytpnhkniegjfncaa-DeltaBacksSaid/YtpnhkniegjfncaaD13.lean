/- causewaylaw16.DeltaBacks returns true; conditions: the changes fit the memory. -/
import Derived.Test.YtpnhkniegjfncaaD12
import Derived.Test.YtpnhkniegjfncaaD7r
import Derived.Test.YtpnhkniegjfncaaD8
namespace Go.Proofs.Ytpnhkniegjfncaa
open Go.ChangeShapes Go.WideShapes Go.ChangeAt Go.RowKit
set_option linter.unusedVariables false
set_option linter.unusedSimpArgs false

theorem Back_sl (xs : List Ch) (n : Nat) (hn : n = xs.length) (A : Option Addr) (c : Nat) (w : World) (hr : RdC w A xs) (hl : xs.length ≤ 1172812402926) :
    Calls Try.prog 15 #[.slice A n c] w fun e w' => (∃ A' c', e = .returned (.slice A' n c') ∧ RdC w' A' (xs.map bk)) ∧ Below w.heap.size w w' := by
  subst hn
  refine Calls.mono (Back_ok xs A c w hr hl) ?_
  rintro e w' ⟨⟨v, rfl, ho⟩, hb⟩
  obtain ⟨A', c', rfl, h1, _⟩ := SlC_of_row ho (by simp)
  exact ⟨⟨A', c', by simp, h1⟩, hb⟩
theorem rBack_sl (xs : List Ch) (n : Nat) (hn : n = xs.length) (A : Option Addr) (c : Nat) (w : World) (hr : RdC w A xs) (hl : xs.length ≤ 1172812402926) :
    Calls Try.prog 17 #[.slice A n c] w fun e w' => (∃ A' c', e = .returned (.slice A' n c') ∧ RdC w' A' (xs.map bk)) ∧ Below w.heap.size w w' := by
  subst hn
  refine Calls.mono (rBack_ok xs A c w hr hl) ?_
  rintro e w' ⟨⟨v, rfl, ho⟩, hb⟩
  obtain ⟨A', c', rfl, h1, _⟩ := SlC_of_row ho (by simp)
  exact ⟨⟨A', c', by simp, h1⟩, hb⟩
theorem same_self (xs : List Ch) (n : Nat) (hn : n = xs.length) (A A' : Option Addr) (c c' : Nat) (w : World) (hr : RdC w A xs) (hr' : RdC w A' xs) (hl : xs.length ≤ 1172812402926) :
    Calls Try.prog 16 #[.slice A n c, .slice A' n c'] w fun e w' => e = .returned (.bool true) ∧ Below w.heap.size w w' := by
  subst hn
  have := same_ok xs xs A A' c c' w hr hr' (by omega) (by omega)
  simpa using this

set_option maxRecDepth 100000 in
set_option maxHeartbeats 4000000 in
theorem DeltaBacks_ok (xs : List Ch) (A : Option Addr) (c : Nat) (w : World) (hr : RdC w A xs) (hA0 : A = none → c = 0) (hl : xs.length ≤ 1172812402926) :
    Calls Try.prog 5 #[.slice A xs.length c] w fun e w' => e = .returned (.bool true) ∧ Below w.heap.size w w' := by
  obtain ⟨n, hn⟩ : ∃ n, n = xs.length := ⟨_, rfl⟩
  rw [← hn]
  have HN := Lib.hid hn
  have HR := Lib.hid hr
  have HL := Lib.hid hl
  have HA := Lib.hid hA0
  clear hr hn hl hA0
  go_enter Try.func5, Try.ntmps5
  go_wp2_with (at_builtin; refine wpList_spreadC rfl (.tmp 6) (.tmp 7) 29 rfl Try.underlying29 info42 w.heap.size (.slice (some ⟨w.heap.size, 0, none⟩) 0 0) rfl (fresh_row w 42 15 w.heap.size (Nat.le_refl _)) (by simp) (by simp) xs HL.out A c (by rw [← HN.out]; rfl) (HR.out.below ((Below.refl _ _).alloc (Nat.le_refl _) _)) HA.out ?_; intro v1 w1 hown1 hv1 hgrow1; obtain ⟨A1, c1, rfl, s1⟩ := SlC_of_row hown1 rfl; have S1 := Lib.hid s1.1; have B1 := Lib.hid (((Below.refl w.heap.size w).alloc (Nat.le_refl _) (Obj.cells #[] 42)).grown hgrow1 (by simp) (fun j hj => by simp [Value.ownBlock] at hj; omega)); clear hown1 hv1 hgrow1 s1; rw [← HN.out])
  refine Calls.mono (Back_sl xs n HN.out A1 c1 w1 S1.out HL.out) ?_
  rintro e w2 ⟨⟨A2, c2, rfl, s2⟩, hb2⟩
  have S2 := Lib.hid s2
  have B2 := Lib.hid (bthen' B1.out B1.out.size hb2)
  have S12 := Lib.hid (S1.out.below hb2)
  clear hb2 s2
  go_wp2_with fail
  refine Calls.mono (Back_sl (xs.map bk) n (by rw [HN.out]; simp) A2 c2 w2 S2.out (by simpa using HL.out)) ?_
  rintro e w3 ⟨⟨A3, c3, rfl, s3⟩, hb3⟩
  have S3 := Lib.hid s3
  have B3 := Lib.hid (bthen' B2.out B2.out.size hb3)
  have S13 := Lib.hid (S12.out.below hb3)
  have S23 := Lib.hid (S2.out.below hb3)
  clear hb3 s3
  go_wp2_with fail
  refine Calls.mono (awake_ok w3) ?_
  rintro e w4 ⟨rfl, hb4⟩
  have B4 := Lib.hid (bthen' B3.out B3.out.size hb4)
  have S14 := Lib.hid (S13.out.below hb4)
  have S24 := Lib.hid (S23.out.below hb4)
  have S34 := Lib.hid (S3.out.below hb4)
  clear hb4
  go_wp2_with fail
  refine Calls.mono (rBack_sl xs n HN.out A c w4 (HR.out.below B4.out) HL.out) ?_
  rintro e w5 ⟨⟨A5, c5, rfl, s5⟩, hb5⟩
  have B5 := Lib.hid (bthen' B4.out B4.out.size hb5)
  have S15 := Lib.hid (S14.out.below hb5)
  have S25 := Lib.hid (S24.out.below hb5)
  have S35 := Lib.hid (S34.out.below hb5)
  have S5 := Lib.hid s5
  clear hb5 s5
  go_wp2_with fail
  refine Calls.mono (same_self (xs.map bk) n (by rw [HN.out]; simp) A2 A5 c2 c5 w5 S25.out S5.out (by simpa using HL.out)) ?_
  rintro e w6 ⟨rfl, hb6⟩
  have B6 := Lib.hid (bthen' B5.out B5.out.size hb6)
  have S16 := Lib.hid (S15.out.below hb6)
  have S36 := Lib.hid (S35.out.below hb6)
  clear hb6
  go_wp2_with fail
  refine Calls.mono (rBack_sl xs n HN.out A c w6 (HR.out.below B6.out) HL.out) ?_
  rintro e w7 ⟨⟨A7, c7, rfl, s7⟩, hb7⟩
  have B7 := Lib.hid (bthen' B6.out B6.out.size hb7)
  have S17 := Lib.hid (S16.out.below hb7)
  have S37 := Lib.hid (S36.out.below hb7)
  have S7 := Lib.hid s7
  clear hb7 s7
  go_wp2_with fail
  refine Calls.mono (rBack_sl (xs.map bk) n (by rw [HN.out]; simp) A7 c7 w7 S7.out (by simpa using HL.out)) ?_
  rintro e w8 ⟨⟨A8, c8, rfl, s8⟩, hb8⟩
  have B8 := Lib.hid (bthen' B7.out B7.out.size hb8)
  have S18 := Lib.hid (S17.out.below hb8)
  have S38 := Lib.hid (S37.out.below hb8)
  have S8 := Lib.hid s8
  clear hb8 s8
  go_wp2_with fail
  refine Calls.mono (same_self ((xs.map bk).map bk) n (by rw [HN.out]; simp) A3 A8 c3 c8 w8 S38.out S8.out (by simpa using HL.out)) ?_
  rintro e w9 ⟨rfl, hb9⟩
  have B9 := Lib.hid (bthen' B8.out B8.out.size hb9)
  have S19 := Lib.hid (S18.out.below hb9)
  clear hb9
  go_wp2_with fail
  refine Calls.mono (same_self xs n HN.out A1 A c1 c w9 S19.out (HR.out.below B9.out) HL.out) ?_
  rintro e w10 ⟨rfl, hb10⟩
  have B10 := Lib.hid (bthen' B9.out B9.out.size hb10)
  clear hb10
  go_wp2_with fail
  go_ret
  exact ⟨rfl, B10.out⟩

end Go.Proofs.Ytpnhkniegjfncaa
