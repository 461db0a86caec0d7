/- What stays at or above a block; leaving a function whose frame bears marks of loops over iterators; no condition. -/
import Derived.Test.YtpnhkniegjfncaaDS
import Derived.Test.YtpnhkniegjfncaaD15
namespace Go.Proofs.Ytpnhkniegjfncaa
open Go.ChangeShapes Go.WideShapes Go.ChangeAt Go.RowKit
set_option linter.unusedVariables false
set_option linter.unusedSimpArgs false

/-- what lies at or above block B stays -/
def Upper (B : Nat) (w w' : World) : Prop := w.heap.size ≤ w'.heap.size ∧ ∀ j, B ≤ j → j < w.heap.size → w'.heap[j]? = w.heap[j]?
theorem Upper.refl (B : Nat) (w : World) : Upper B w w := ⟨Nat.le_refl _, fun _ _ _ => rfl⟩
theorem Upper.of_below {B : Nat} {w w' : World} (h : Below w.heap.size w w') : Upper B w w' := ⟨h.size, fun j _ hj => h.block j hj⟩
theorem Upper.trans {B : Nat} {a b c : World} (h : Upper B a b) (k : Upper B b c) : Upper B a c := ⟨Nat.le_trans h.1 k.1, fun j hj hs => (k.2 j hj (Nat.lt_of_lt_of_le hs h.1)).trans (h.2 j hj hs)⟩
theorem Upper.others {B g : Nat} {w w' : World} (hs : w'.heap.size = w.heap.size) (ho : ∀ j, j ≠ g → w'.heap[j]? = w.heap[j]?) (hg : g < B) : Upper B w w' := ⟨by omega, fun j hj _ => ho j (by omega)⟩
theorem Upper.heap {B g : Nat} {w w' : World} {ob : Obj} (h : Upper B w w') (hg : B ≤ g) (k : w.heap[g]? = some ob) : w'.heap[g]? = some ob := (h.2 g hg (Array.getElem?_eq_some_iff.1 k).1).trans k
theorem Upper.cell {B : Nat} {w w' : World} {a : Addr} {v : Value} (h : Upper B w w') (hg : B ≤ a.block) (k : w.cell? a = some v) : w'.cell? a = some v :=
  (World.cell?_of_block (w := w) (w' := w') (a := a) (h.2 a.block hg (World.block_lt_of_cell? w a k))).trans k
theorem SlR.upper {B : Nat} {w w' : World} {v : Value} {xs : List Ro} (h : SlR B w v xs) (k : Upper B w w') : SlR B w' v xs := by
  obtain ⟨A, c, rfl, h1, h2, h3, h4⟩ := h
  refine ⟨A, c, rfl, fun i r hi => ?_, h2, h3, h4⟩
  obtain ⟨b, o, rfl, ha⟩ := h1 i r hi
  have hB : B ≤ b := h3 _ rfl
  exact ⟨b, o, rfl, AtR_of fun j u hu => k.cell (a := ⟨b, o + i * 7 + j, none⟩) hB (AtR_get ha j u hu)⟩
theorem SlC.upper {B B' : Nat} {w w' : World} {v : Value} {xs : List Ch} (h : SlC B w v xs) (k : Upper B' w w') (hB' : B' ≤ B) : SlC B w' v xs := by
  obtain ⟨A, c, rfl, h1, h2, h3, h4⟩ := h
  refine ⟨A, c, rfl, fun i r hi => ?_, h2, h3, h4⟩
  obtain ⟨b, o, rfl, ha⟩ := h1 i r hi
  have hB : B ≤ b := h3 _ rfl
  exact ⟨b, o, rfl, AtC_of fun j u hu => k.cell (a := ⟨b, o + i * 15 + j, none⟩) (Nat.le_trans hB' hB) (AtC_get ha j u hu)⟩
theorem BoxR.upper {B0 B : Nat} {w w' : World} {xs : List Ro} (h : BoxR B0 w B xs) (k : Upper B0 w w') : BoxR B0 w' B xs := by
  obtain ⟨h1, v, h2, h3⟩ := h
  exact ⟨h1, v, k.heap h1 h2, h3.upper k⟩
theorem Boxed.others {w w' : World} {B g : Nat} {t : TypeId} {v : Value} (h : Boxed w B t v) (ho : ∀ j, j ≠ g → w'.heap[j]? = w.heap[j]?) (hne : B ≠ g) : Boxed w' B t v := (ho B hne).trans h

/-- a mark -/
def mk (D : Nat) : Deferred := { target := .collected D, args := #[] }
theorem leaves_marks {F : Fence} {n : Nat} {P : Program} {fn : Func} {tmps : Array Value} {R : Ending → World → Prop} (B : Nat) (K : World → Prop)
    (hK : ∀ w D, B ≤ D → w.heap[D]? = some (.deferred (some [])) → K w → K (w.putObj D (.deferred none))) (hfin : ∀ w, K w → ∃ v, (results fn tmps).run P w = .ok v w ∧ R (.returned v) w) :
    ∀ (Ds : List Nat) (w : World), Ds.Nodup → (∀ D ∈ Ds, B ≤ D ∧ w.heap[D]? = some (.deferred (some []))) → K w → LeavesInM F n P fn tmps R (Ds.map mk) .returning w
  | [], w, _, _, hk => hfin w hk
  | D :: Ds, w, hn, hd, hk => by
    refine ⟨by simp, .inl ⟨D, _, rfl, run_takeDeferred (hd D (by simp)).2, ?_⟩⟩
    have hnd := List.nodup_cons.1 hn
    refine leaves_marks B K hK hfin Ds _ hnd.2 (fun E hE => ⟨(hd E (by simp [hE])).1, ?_⟩) (hK w D (hd D (by simp)).1 (hd D (by simp)).2 hk)
    have hne : E ≠ D := fun e => hnd.1 (e ▸ hE)
    have := (hd E (by simp [hE])).2
    have hg := grownBy_putObj' w D (.deferred none)
    exact (hg.block E (Array.getElem?_eq_some_iff.1 this).1 (fun e => hne (by cases e; rfl))).trans this
/-- append([]T{}, xs...), in a fence -/
theorem wpListIn_spreadR {F : Fence} {n : Nat} {w : World} {ops : Array Oper} {rest : List Oper} {o : Oper} {a : Act} {Q : Exit → Act → World → Prop} (hgd : o.guard = none) (s x : Operand)
    (ho : o.op = .call { callee := .builtin .append, args := #[s, x], argTypes := #[22, 22] })
    (base : Nat) (v : Value) (hs : a.eval s = v) (hown : w.ownsRow base 40 7 v 0 []) (hv : v ≠ .slice none 0 0) (hbase : base ≤ w.heap.size) (xs : List Ro) (hl : xs.length ≤ 2513169434843) (A : Option Addr) (c : Nat) (hx : a.eval x = .slice A xs.length c) (hr : RdR w A xs) (hA0 : A = none → c = 0)
    (h : ∀ v' w', w'.ownsRow base 40 7 v' xs.length (xs.flatMap rcV) → v' ≠ .slice none 0 0 → w.grownBy w' v.ownBlock → wpListIn F n Try.prog ops Q rest (a.put o.dst v') w') : wpListIn F n Try.prog ops Q (o :: rest) a w := by
  obtain ⟨i, hi, hz, hsz, hby⟩ := info_parts info40
  have key : ∃ v' w', (Builtin.append_ #[22, 22] o.type #[v, .slice A xs.length c]).run Try.prog w = .ok v' w' ∧ w'.ownsRow base 40 7 v' xs.length (xs.flatMap rcV) ∧ v' ≠ .slice none 0 0 ∧ w.grownBy w' v.ownBlock := by
    cases A with
    | some ad =>
      obtain ⟨v', w', h1, h2, h3, h4⟩ := run_append_own (P := Try.prog) w base 22 o.type 40 i _ 7 56 Try.underlying22 hi hz hsz hby rfl (by omega) v 0 [] hown ad xs.length c (xs.flatMap rcV) (flat_len _ 7 rcV_len xs) (newsR hr) (flat_one rcV_one xs) (by simp [maxLen]; omega) (by omega) hbase
      exact ⟨v', w', h1, by simpa using h2, fun e => hv (h4.1 e).1, h3⟩
    | none =>
      have hx0 : xs = [] := by
        cases xs with
        | nil => rfl
        | cons r xs => obtain ⟨b, o, hA, _⟩ := hr 0 r rfl; cases hA
      subst hx0
      obtain rfl := hA0 rfl
      exact ⟨v, w, run_append_owned_none (P := Try.prog) w base 22 o.type 40 i 7 Try.underlying22 hi v 0 [] hown, hown, hv, World.grownBy.refl _ _⟩
  obtain ⟨v', w', hrun, r1, r2, r3⟩ := key
  refine wpListIn_plain hgd fun K hK' => ?_
  unfold Oper.wpIn
  refine ⟨?_, ?_⟩
  · simp [Oper.about, ho, resolve, Target.leads, Sem.run_pure]
  · rw [Oper.semAt_plain F _ _ (by rw [ho]; intro c hc'; cases hc')]
    simp [execOp, ho, resolve, invoke, builtin, hs, hx, hrun, Result.andThen]
    exact hK' _ _ (h v' w' r1 r2 r3)
theorem own_some {w : World} {base e sz n : Nat} {v : Value} {xs : List Value} (h : w.ownsRow base e sz v n xs) (hv : v ≠ .slice none 0 0) : ∃ g cap, v = .slice (some ⟨g, 0, none⟩) n cap ∧ base ≤ g ∧ g < w.heap.size := by
  rcases h.2 with ⟨h0, _⟩ | ⟨g, cap, cur, hv', hb, hg, _⟩
  · exact absurd h0 hv
  · exact ⟨g, cap, hv', hb, (Array.getElem?_eq_some_iff.1 hg).1⟩
end Go.Proofs.Ytpnhkniegjfncaa
