/- What a slice of routes or of changes that came in reads as; no condition. -/
import Derived.Test.YtpnhkniegjfncaaD6
import Derived.WalkKit
import Derived.ProofKit
import Derived.OpenShut
import Derived.ShutString
import Derived.ChangeOld
import Derived.Below
import Derived.Deep.Slices
namespace Go.Proofs.Ytpnhkniegjfncaa
open Go.ChangeShapes Go.WideShapes Go.ChangeAt Go.RowKit Go.Deep
set_option linter.unusedVariables false
set_option linter.unusedSimpArgs false

theorem ce3 : Try.prog.cellsOf 3 = 1 := by kernel_rfl
theorem ce33 : Try.prog.cellsOf 33 = 1 := by kernel_rfl
theorem ce36 : Try.prog.cellsOf 36 = 1 := by kernel_rfl
theorem ce35 : Try.prog.cellsOf 35 = 2 := by kernel_rfl
theorem ce38 : Try.prog.cellsOf 38 = 2 := by kernel_rfl
theorem ce40 : Try.prog.cellsOf 40 = 7 := by kernel_rfl
theorem ce42 : Try.prog.cellsOf 42 = 15 := by kernel_rfl
section
variable {H : Type} {enc : TypeId × Value → H} {w : World} {base : Nat} {spare : Nat → Bool} {held : Bool} {fuel : Nat} {cs : List Value} {x : DataW H × List MemPlace}
theorem t35 (h : DataW.trod enc Try.prog w base spare held fuel 35 cs = some x) : ∃ p : Pf, cs = [.int .u32 p.a, .int .i64 p.l] ∧ FitP p := by
  obtain ⟨xs, n, _, _, hl, hn, hx⟩ := DataW.trod_struct Try.underlying35 h
  have e0 : DataW.trod enc Try.prog w base spare held n 33 ((cs.drop 0).take (Try.prog.cellsOf 33)) = xs[0]? := hx 0 _ rfl
  have e1 : DataW.trod enc Try.prog w base spare held n 3 ((cs.drop 1).take (Try.prog.cellsOf 3)) = xs[1]? := hx 1 _ rfl
  rw [ce35] at hl
  match cs, hl with
  | [c0, c1], _ =>
    rw [ce33] at e0
    rw [ce3] at e1
    rw [List.getElem?_eq_getElem (by rw [hn]; decide)] at e0 e1
    obtain ⟨a, ha, _, wa⟩ := DataW.trod_int Try.underlying33 e0
    obtain ⟨b, hb, _, wb⟩ := DataW.trod_int Try.underlying3 e1
    simp only [List.drop_zero, List.drop_succ_cons, List.take_succ_cons, List.take_zero, List.cons.injEq, and_true] at ha hb
    subst ha hb
    refine ⟨⟨a, b⟩, rfl, ?_⟩
    have : 0 ≤ a ∧ a ≤ 4294967295 := by simpa [Lit.wf, IntKind.min, IntKind.max, IntKind.bits, IntKind.signed] using wa
    exact ⟨this.1, by show a < _; omega⟩
theorem t38 (h : DataW.trod enc Try.prog w base spare held fuel 38 cs = some x) : ∃ a b : Int, cs = [.int .u64 a, .int .u64 b] := by
  obtain ⟨xs, n, _, _, hl, hn, hx⟩ := DataW.trod_array Try.underlying38 h
  have e0 := hx 0 (by omega)
  have e1 := hx 1 (by omega)
  rw [ce38] at hl
  match cs, hl with
  | [c0, c1], _ =>
    rw [ce36] at e0 e1
    rw [List.getElem?_eq_getElem (by rw [hn]; decide)] at e0 e1
    obtain ⟨a, ha, _, wa⟩ := DataW.trod_int Try.underlying36 e0
    obtain ⟨b, hb, _, wb⟩ := DataW.trod_int Try.underlying36 e1
    simp only [Nat.zero_mul, Nat.one_mul, List.drop_zero, List.drop_succ_cons, List.take_succ_cons, List.take_zero, List.cons.injEq, and_true] at ha hb
    subst ha hb
    exact ⟨a, b, rfl⟩
theorem t40 (h : DataW.trod enc Try.prog w base spare held fuel 40 cs = some x) : ∃ r : Ro, cs = rcV r ∧ FitR r := by
  obtain ⟨xs, n, _, _, hl, hn, hx⟩ := DataW.trod_struct Try.underlying40 h
  have e0 : DataW.trod enc Try.prog w base spare held n 35 ((cs.drop 0).take (Try.prog.cellsOf 35)) = xs[0]? := hx 0 _ rfl
  have e1 : DataW.trod enc Try.prog w base spare held n 3 ((cs.drop 2).take (Try.prog.cellsOf 3)) = xs[1]? := hx 1 _ rfl
  have e2 : DataW.trod enc Try.prog w base spare held n 38 ((cs.drop 3).take (Try.prog.cellsOf 38)) = xs[2]? := hx 2 _ rfl
  have e3 : DataW.trod enc Try.prog w base spare held n 38 ((cs.drop 5).take (Try.prog.cellsOf 38)) = xs[3]? := hx 3 _ rfl
  rw [ce40] at hl
  match cs, hl with
  | [c0, c1, c2, c3, c4, c5, c6], _ =>
    rw [ce35] at e0
    rw [ce3] at e1
    rw [ce38] at e2 e3
    rw [List.getElem?_eq_getElem (by rw [hn]; decide)] at e0 e1 e2 e3
    obtain ⟨p, ha, hp⟩ := t35 e0
    obtain ⟨m, hb, _, wb⟩ := DataW.trod_int Try.underlying3 e1
    obtain ⟨o0, o1, hc⟩ := t38 e2
    obtain ⟨h0, h1, hd⟩ := t38 e3
    simp only [List.drop_zero, List.drop_succ_cons, List.take_succ_cons, List.take_zero, List.cons.injEq, and_true] at ha hb hc hd
    obtain ⟨rfl, rfl⟩ := ha
    subst hb
    obtain ⟨rfl, rfl⟩ := hc
    obtain ⟨rfl, rfl⟩ := hd
    exact ⟨⟨p, m, o0, o1, h0, h1⟩, rfl, hp⟩
theorem t42 (h : DataW.trod enc Try.prog w base spare held fuel 42 cs = some x) : ∃ c : Ch, cs = ccV c ∧ FitC c := by
  obtain ⟨xs, n, _, _, hl, hn, hx⟩ := DataW.trod_struct Try.underlying42 h
  have e0 : DataW.trod enc Try.prog w base spare held n 3 ((cs.drop 0).take (Try.prog.cellsOf 3)) = xs[0]? := hx 0 _ rfl
  have e1 : DataW.trod enc Try.prog w base spare held n 40 ((cs.drop 1).take (Try.prog.cellsOf 40)) = xs[1]? := hx 1 _ rfl
  have e2 : DataW.trod enc Try.prog w base spare held n 40 ((cs.drop 8).take (Try.prog.cellsOf 40)) = xs[2]? := hx 2 _ rfl
  rw [ce42] at hl
  match cs, hl with
  | [c0, c1, c2, c3, c4, c5, c6, c7, c8, c9, c10, c11, c12, c13, c14], _ =>
    rw [ce3] at e0
    rw [ce40] at e1 e2
    rw [List.getElem?_eq_getElem (by rw [hn]; decide)] at e0 e1 e2
    obtain ⟨k, ha, _, wa⟩ := DataW.trod_int Try.underlying3 e0
    obtain ⟨o, hb, ho⟩ := t40 e1
    obtain ⟨r, hc, hr⟩ := t40 e2
    simp only [rcV, List.drop_zero, List.drop_succ_cons, List.take_succ_cons, List.take_zero, List.cons.injEq, and_true] at ha hb hc
    subst ha
    obtain ⟨rfl, rfl, rfl, rfl, rfl, rfl, rfl⟩ := hb
    obtain ⟨rfl, rfl, rfl, rfl, rfl, rfl, rfl⟩ := hc
    exact ⟨⟨k, o, r⟩, rfl, ho, hr⟩

theorem pick {α : Type} {n : Nat} {p : Nat → α → Prop} (h : ∀ i, i < n → ∃ a, p i a) : ∃ xs : List α, xs.length = n ∧ ∀ i x, xs[i]? = some x → p i x := by
  induction n with
  | zero => exact ⟨[], rfl, fun i x hx => by simp at hx⟩
  | succ n ih =>
    obtain ⟨xs, hl, hx⟩ := ih (fun i hi => h i (by omega))
    obtain ⟨a, ha⟩ := h n (by omega)
    refine ⟨xs ++ [a], by simp [hl], fun i x hi => ?_⟩
    by_cases hin : i < n
    · exact hx i x (by rwa [List.getElem?_append_left (by omega)] at hi)
    · have hlt := (List.getElem?_eq_some_iff.1 hi).1
      simp only [List.length_append, List.length_cons, List.length_nil] at hlt
      obtain rfl : i = n := by omega
      rw [List.getElem?_append_right (by omega), hl] at hi
      simp at hi
      subst hi
      exact ha

theorem spot0 {w : World} {a : Addr} {m base : Nat} {cs : List Value} (hm : 0 < m) (h : w.cells? base (a.add (0 * m)) m = some cs) : ∃ b o, a = ⟨b, o, none⟩ := by
  obtain ⟨_, hl, hx⟩ := World.cells?_some h
  obtain ⟨b, off, spot⟩ := a
  have := hx 0 hm
  rw [List.getElem?_eq_getElem (by omega)] at this
  have hspot : spot = none := by simpa [Addr.add] using World.cell?_spot this
  subst hspot
  exact ⟨b, off, rfl⟩
theorem at_add {w : World} {b o m base i : Nat} {cs : List Value} (h : w.cells? base (Addr.add ⟨b, o, none⟩ (i * m)) m = some cs) : ∀ k u, cs[k]? = some u → w.cell? ⟨b, o + i * m + k, none⟩ = some u := by
  obtain ⟨_, hl, hx⟩ := World.cells?_some h
  intro k u hu
  have hk : k < m := by have := (List.getElem?_eq_some_iff.1 hu).1; omega
  have := hx k hk
  rwa [hu, Addr.add_lit, Addr.add_lit] at this

/-- A SLICE OF CHANGES THAT CAME IN -/
theorem open_changes {v : Value} (hv : ∃ a len cap, v = .slice a len cap) (h : DataW.trod enc Try.prog w base spare held fuel 29 v.cells.toList = some x) :
    ∃ (xs : List Ch) (A : Option Addr) (c : Nat), v = .slice A xs.length c ∧ RdC w A xs ∧ (A = none → c = 0) ∧ xs.length ≤ c ∧ (∀ (i : Nat) r, xs[i]? = some r → FitC r) ∧ (xs = [] ∨ ∃ L S, x.1 = .slice L S ∧ L.length = xs.length) := by
  obtain ⟨a, len, cap, rfl⟩ := hv
  rcases open_slice Try.underlying29 h with ⟨hcs, _⟩ | ⟨a', len', cap', m, n, D, Pl, hcs, _, hl, hm, hmm, hxx, hel⟩
  · simp [Value.cells] at hcs
    obtain ⟨rfl, rfl, rfl⟩ := hcs
    exact ⟨[], none, 0, rfl, fun i r hr => by simp at hr, fun _ => rfl, by simp, fun i r hr => (by simp at hr), .inl rfl⟩
  · simp [Value.cells] at hcs
    obtain ⟨rfl, rfl, rfl⟩ := hcs
    rw [ce42] at hel
    obtain ⟨xs, hlen, hx⟩ := pick (n := len) (p := fun i (r : Ch) => FitC r ∧ w.cells? base (a'.add (i * 15)) 15 = some (ccV r)) (fun i hi => by
      obtain ⟨cs', h1, h2⟩ := hel i (by rw [hmm]; split <;> omega)
      obtain ⟨r, rfl, hf⟩ := t42 h2
      exact ⟨r, hf, h1⟩)
    refine ⟨xs, some a', cap, by rw [hlen], fun i r hr => ?_, fun h => (by cases h), by omega, fun i r hr => (hx i r hr).1, .inr ⟨_, _, by rw [hxx], by simp [hlen]⟩⟩
    have hi := (List.getElem?_eq_some_iff.1 hr).1
    obtain ⟨r0', hr0⟩ : ∃ r, xs[0]? = some r := ⟨_, List.getElem?_eq_getElem (by omega)⟩
    obtain ⟨b, o, rfl⟩ := spot0 (by omega) (hx 0 _ hr0).2
    exact ⟨b, o, rfl, AtC_of (at_add (hx i r hr).2)⟩
/-- A SLICE OF ROUTES THAT CAME IN -/
theorem open_routes {v : Value} (hv : ∃ a len cap, v = .slice a len cap) (h : DataW.trod enc Try.prog w base spare held fuel 22 v.cells.toList = some x) :
    ∃ (xs : List Ro) (A : Option Addr) (c : Nat), v = .slice A xs.length c ∧ RdR w A xs ∧ (A = none → c = 0) ∧ xs.length ≤ c ∧ (∀ (i : Nat) r, xs[i]? = some r → FitR r) ∧ (xs = [] ∨ ∃ L S, x.1 = .slice L S ∧ L.length = xs.length) := by
  obtain ⟨a, len, cap, rfl⟩ := hv
  rcases open_slice Try.underlying22 h with ⟨hcs, _⟩ | ⟨a', len', cap', m, n, D, Pl, hcs, _, hl, hm, hmm, hxx, hel⟩
  · simp [Value.cells] at hcs
    obtain ⟨rfl, rfl, rfl⟩ := hcs
    exact ⟨[], none, 0, rfl, fun i r hr => by simp at hr, fun _ => rfl, by simp, fun i r hr => (by simp at hr), .inl rfl⟩
  · simp [Value.cells] at hcs
    obtain ⟨rfl, rfl, rfl⟩ := hcs
    rw [ce40] at hel
    obtain ⟨xs, hlen, hx⟩ := pick (n := len) (p := fun i (r : Ro) => FitR r ∧ w.cells? base (a'.add (i * 7)) 7 = some (rcV r)) (fun i hi => by
      obtain ⟨cs', h1, h2⟩ := hel i (by rw [hmm]; split <;> omega)
      obtain ⟨r, rfl, hf⟩ := t40 h2
      exact ⟨r, hf, h1⟩)
    refine ⟨xs, some a', cap, by rw [hlen], fun i r hr => ?_, fun h => (by cases h), by omega, fun i r hr => (hx i r hr).1, .inr ⟨_, _, by rw [hxx], by simp [hlen]⟩⟩
    have hi := (List.getElem?_eq_some_iff.1 hr).1
    obtain ⟨r0', hr0⟩ : ∃ r, xs[0]? = some r := ⟨_, List.getElem?_eq_getElem (by omega)⟩
    obtain ⟨b, o, rfl⟩ := spot0 (by omega) (hx 0 _ hr0).2
    exact ⟨b, o, rfl, AtR_of (at_add (hx i r hr).2)⟩
end
end Go.Proofs.Ytpnhkniegjfncaa
