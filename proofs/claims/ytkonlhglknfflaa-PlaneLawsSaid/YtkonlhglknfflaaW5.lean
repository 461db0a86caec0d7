/- Contracts of plane.Dot, Cross, Side, Disc and Far on places; condition: the arguments are places. -/
import Derived.Test.YtkonlhglknfflaaW4
namespace Go.Proofs.Ytkonlhglknfflaa.planeLaws
open Go.ChangeShapes Go.WideShapes Go.ChangeAt Go.RowKit
open PF
set_option linter.unusedVariables false

/-- the complex number x + iy is the place (n, m) -/
structure Pl (x y : Nat) (n m : Int) : Prop where
  re : IsF x n
  im : IsF y m
  sre : Sm 1048576 n
  sim : Sm 1048576 m

theorem all2 {a b c d : Nat} {A B C D : Int} (p : Pl a b A B) (q : Pl c d C D) (w : World) :
    Calls Try.prog 15 #[.slice (some ⟨w.heap.size, 0, none⟩) 2 2] (w.alloc (Obj.cells #[.complex .f64 a b, .complex .f64 c d] 22)) fun e w' => e = .returned (.bool true) ∧ (w.alloc (Obj.cells #[.complex .f64 a b, .complex .f64 c d] 22)) = w' := by
  refine all_ok w.heap.size 0 2 2 _ (by omega) fun k hk => ?_
  rcases (by omega : k = 0 ∨ k = 1) with rfl | rfl
  · exact ⟨a, b, A, B, by simp, p.re, p.im, p.sre, p.sim⟩
  · exact ⟨c, d, C, D, by simp, q.re, q.im, q.sre, q.sim⟩

theorem all3 {a b c d e f : Nat} {A B C D E F : Int} (p : Pl a b A B) (q : Pl c d C D) (r : Pl e f E F) (w : World) :
    Calls Try.prog 15 #[.slice (some ⟨w.heap.size, 0, none⟩) 3 3] (w.alloc (Obj.cells #[.complex .f64 a b, .complex .f64 c d, .complex .f64 e f] 22)) fun x w' => x = .returned (.bool true) ∧ (w.alloc (Obj.cells #[.complex .f64 a b, .complex .f64 c d, .complex .f64 e f] 22)) = w' := by
  refine all_ok w.heap.size 0 3 3 _ (by omega) fun k hk => ?_
  rcases (by omega : k = 0 ∨ k = 1 ∨ k = 2) with rfl | rfl | rfl
  · exact ⟨a, b, A, B, by simp, p.re, p.im, p.sre, p.sim⟩
  · exact ⟨c, d, C, D, by simp, q.re, q.im, q.sre, q.sim⟩
  · exact ⟨e, f, E, F, by simp, r.re, r.im, r.sre, r.sim⟩

theorem all4 {a b c d e f g h : Nat} {A B C D E F G H : Int} (p : Pl a b A B) (q : Pl c d C D) (r : Pl e f E F) (s : Pl g h G H) (w : World) :
    Calls Try.prog 15 #[.slice (some ⟨w.heap.size, 0, none⟩) 4 4] (w.alloc (Obj.cells #[.complex .f64 a b, .complex .f64 c d, .complex .f64 e f, .complex .f64 g h] 22)) fun x w' => x = .returned (.bool true) ∧ (w.alloc (Obj.cells #[.complex .f64 a b, .complex .f64 c d, .complex .f64 e f, .complex .f64 g h] 22)) = w' := by
  refine all_ok w.heap.size 0 4 4 _ (by omega) fun k hk => ?_
  rcases (by omega : k = 0 ∨ k = 1 ∨ k = 2 ∨ k = 3) with rfl | rfl | rfl | rfl
  · exact ⟨a, b, A, B, by simp, p.re, p.im, p.sre, p.sim⟩
  · exact ⟨c, d, C, D, by simp, q.re, q.im, q.sre, q.sim⟩
  · exact ⟨e, f, E, F, by simp, r.re, r.im, r.sre, r.sim⟩
  · exact ⟨g, h, G, H, by simp, s.re, s.im, s.sre, s.sim⟩

set_option maxHeartbeats 400000 in
theorem dot_ok (a b c d : Nat) (A B C D : Int) (w : World) (p : Pl a b A B) (q : Pl c d C D) :
    Calls Try.prog 7 #[.complex .f64 a b, .complex .f64 c d] w fun e w' => e = .returned (.tuple #[.int .i64 (A * C + B * D), .int .i64 0]) ∧ Grown w w' := by
  have H1 := Lib.hid (all2 p q)
  have H2 := Lib.hid (fun w => both_ok a b c d A B C D w p.re p.im q.re q.im (p.sre.mono (by decide)) (p.sim.mono (by decide)) (q.sre.mono (by decide)) (q.sim.mono (by decide)))
  have FIN := Lib.hid (fun r (hr : IsF r (A * C + B * D)) w => run_convert_float_int (P := Try.prog) w 23 3 .f64 .i64 r _ (by rw [Try.underlying23]; rfl) Try.underlying3 (fval hr (((p.sre.mul q.sre).add (p.sim.mul q.sim)).lt (by decide))))
  clear p q
  go_enter Try.func7, Try.ntmps7
  go_wp2_with fail
  refine (H1.out _).mono ?_
  rintro e w' ⟨rfl, rfl⟩
  go_wp2_with fail
  refine (H2.out _).mono ?_
  rintro e w' ⟨r, i, rfl, hr, hi, rfl⟩
  have F := Lib.hid (FIN.out r hr)
  clear hr hi FIN
  go_wp2_with (simp only [F.out])
  go_ret2
  exact ⟨rfl, (Grown.refl _).alloc _ _⟩

set_option maxHeartbeats 400000 in
theorem cross_ok (a b c d : Nat) (A B C D : Int) (w : World) (p : Pl a b A B) (q : Pl c d C D) :
    Calls Try.prog 8 #[.complex .f64 a b, .complex .f64 c d] w fun e w' => e = .returned (.tuple #[.int .i64 (A * D - B * C), .int .i64 0]) ∧ Grown w w' := by
  have H1 := Lib.hid (all2 p q)
  have H2 := Lib.hid (fun w => both_ok a b c d A B C D w p.re p.im q.re q.im (p.sre.mono (by decide)) (p.sim.mono (by decide)) (q.sre.mono (by decide)) (q.sim.mono (by decide)))
  have FIN := Lib.hid (fun r (hr : IsF r (A * D - B * C)) w => run_convert_float_int (P := Try.prog) w 23 3 .f64 .i64 r _ (by rw [Try.underlying23]; rfl) Try.underlying3 (fval hr (((p.sre.mul q.sim).sub (p.sim.mul q.sre)).lt (by decide))))
  clear p q
  go_enter Try.func8, Try.ntmps8
  go_wp2_with fail
  refine (H1.out _).mono ?_
  rintro e w' ⟨rfl, rfl⟩
  go_wp2_with fail
  refine (H2.out _).mono ?_
  rintro e w' ⟨r, i, rfl, hr, hi, rfl⟩
  have F := Lib.hid (FIN.out i hi)
  clear hr hi FIN
  go_wp2_with (simp only [F.out])
  go_ret2
  exact ⟨rfl, (Grown.refl _).alloc _ _⟩

set_option maxHeartbeats 400000 in
theorem Side_ok (a b c d f g : Nat) (A B C D F G : Int) (w : World) (p : Pl a b A B) (q : Pl c d C D) (s : Pl f g F G) :
    Calls Try.prog 9 #[.complex .f64 a b, .complex .f64 c d, .complex .f64 f g] w fun e w' => e = .returned (.tuple #[.int .i64 (sgn ((C - A) * (G - B) - (D - B) * (F - A))), .int .i64 0]) ∧ Grown w w' := by
  have H1 := Lib.hid (all3 p q s)
  have H2 := Lib.hid (fun w => side_ok a b c d f g A B C D F G w p.re p.im q.re q.im s.re s.im p.sre p.sim q.sre q.sim s.sre s.sim)
  clear p q s
  go_enter Try.func9, Try.ntmps9
  go_wp2_with fail
  refine (H1.out _).mono ?_
  rintro e w' ⟨rfl, rfl⟩
  go_wp2_with fail
  refine (H2.out _).mono ?_
  rintro e w' ⟨rfl, rfl⟩
  go_wp2_with fail
  go_ret2
  exact ⟨rfl, (Grown.refl _).alloc _ _⟩

set_option maxHeartbeats 400000 in
theorem disc_ok (a b c d f g : Nat) (A B C D F G : Int) (w : World) (p : Pl a b A B) (q : Pl c d C D) (s : Pl f g F G) :
    Calls Try.prog 10 #[.complex .f64 a b, .complex .f64 c d, .complex .f64 f g] w fun e w' => e = .returned (.tuple #[.bool (decide ((A - F) * (C - F) + (B - G) * (D - G) ≤ 0)), .int .i64 0]) ∧ Grown w w' := by
  have H1 := Lib.hid (all3 p q s)
  have H2 := Lib.hid (fun w => on_ok a b c d f g A B C D F G w p.re p.im q.re q.im s.re s.im p.sre p.sim q.sre q.sim s.sre s.sim)
  clear p q s
  go_enter Try.func10, Try.ntmps10
  go_wp2_with fail
  refine (H1.out _).mono ?_
  rintro e w' ⟨rfl, rfl⟩
  go_wp2_with fail
  refine (H2.out _).mono ?_
  rintro e w' ⟨rfl, rfl⟩
  go_wp2_with fail
  go_ret2
  exact ⟨rfl, (Grown.refl _).alloc _ _⟩

set_option maxHeartbeats 400000 in
theorem Far_ok (a b c d : Nat) (A B C D : Int) (w : World) (p : Pl a b A B) (q : Pl c d C D) :
    Calls Try.prog 11 #[.complex .f64 a b, .complex .f64 c d] w fun e w' => e = .returned (.tuple #[.int .i64 ((A - C) * (A - C) + (B - D) * (B - D)), .int .i64 0]) ∧ Grown w w' := by
  have H1 := Lib.hid (all2 p q)
  have H2 := Lib.hid (fun w => far_ok a b c d A B C D w p.re p.im q.re q.im p.sre p.sim q.sre q.sim)
  clear p q
  go_enter Try.func11, Try.ntmps11
  go_wp2_with fail
  refine (H1.out _).mono ?_
  rintro e w' ⟨rfl, rfl⟩
  go_wp2_with fail
  refine (H2.out _).mono ?_
  rintro e w' ⟨rfl, rfl⟩
  go_wp2_with fail
  go_ret2
  exact ⟨rfl, (Grown.refl _).alloc _ _⟩
end Go.Proofs.Ytkonlhglknfflaa.planeLaws
