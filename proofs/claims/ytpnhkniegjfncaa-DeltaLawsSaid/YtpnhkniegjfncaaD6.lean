/- Rows of routes and changes as lists of cells; slices.Clone and the spread append; conditions: the elements fit the memory. -/
import Derived.Test.YtpnhkniegjfncaaD5
import Derived.Laws.AppendOwn
import Derived.OwnWalk
namespace Go.Proofs.Ytpnhkniegjfncaa
open Go.ChangeShapes Go.WideShapes Go.ChangeAt Go.RowKit
set_option linter.unusedVariables false
set_option linter.unusedSimpArgs false
attribute [local go_sem] Og.Opt Og.OpY

def rcV (r : Ro) : List Value := [.int .u32 r.p.a, .int .i64 r.p.l, .int .i64 r.m, .int .u64 r.o0, .int .u64 r.o1, .int .u64 r.h0, .int .u64 r.h1]
def ccV (c : Ch) : List Value := [.int .i64 c.k, .int .u32 c.o.p.a, .int .i64 c.o.p.l, .int .i64 c.o.m, .int .u64 c.o.o0, .int .u64 c.o.o1, .int .u64 c.o.h0, .int .u64 c.o.h1, .int .u32 c.n.p.a, .int .i64 c.n.p.l, .int .i64 c.n.m, .int .u64 c.n.o0, .int .u64 c.n.o1, .int .u64 c.n.h0, .int .u64 c.n.h1]

theorem flat_get {α β : Type} (f : α → List β) (m : Nat) (hm : ∀ x, (f x).length = m) (h0 : 0 < m) : ∀ (xs : List α) (j : Nat), (xs.flatMap f)[j]? = (xs[j / m]?).bind fun x => (f x)[j % m]?
  | [], j => by simp
  | x :: xs, j => by
    rw [List.flatMap_cons, List.getElem?_append]
    by_cases hj : j < m
    · rw [if_pos (by rw [hm]; exact hj), Nat.div_eq_of_lt hj, Nat.mod_eq_of_lt hj]
      simp
    · rw [if_neg (by rw [hm]; exact hj), hm, flat_get f m hm h0 xs (j - m)]
      have e1 : j / m = (j - m) / m + 1 := by
        conv => lhs; rw [show j = (j - m) + m by omega]
        exact Nat.add_div_right _ h0
      have e2 : (j - m) % m = j % m := by
        conv => rhs; rw [show j = (j - m) + m by omega]
        exact (Nat.add_mod_right _ _).symm
      rw [e1, e2]
      simp
theorem flat_len {α β : Type} (f : α → List β) (m : Nat) (hm : ∀ x, (f x).length = m) (xs : List α) : (xs.flatMap f).length = xs.length * m := by
  induction xs with
  | nil => simp
  | cons x xs ih => rw [List.flatMap_cons, List.length_append, ih, hm, List.length_cons, Nat.succ_mul]; omega
theorem rcV_len (r : Ro) : (rcV r).length = 7 := rfl
theorem ccV_len (c : Ch) : (ccV c).length = 15 := rfl
theorem rcV_one (r : Ro) : ∀ u ∈ rcV r, u.oneCell' = true := by
  intro u hu
  simp only [rcV, List.mem_cons, List.not_mem_nil, or_false] at hu
  rcases hu with rfl | rfl | rfl | rfl | rfl | rfl | rfl <;> rfl
theorem ccV_one (c : Ch) : ∀ u ∈ ccV c, u.oneCell' = true := by
  intro u hu
  simp only [ccV, List.mem_cons, List.not_mem_nil, or_false] at hu
  rcases hu with rfl | rfl | rfl | rfl | rfl | rfl | rfl | rfl | rfl | rfl | rfl | rfl | rfl | rfl | rfl <;> rfl
theorem flat_one {α : Type} {f : α → List Value} (h : ∀ x, ∀ u ∈ f x, u.oneCell' = true) (xs : List α) : ∀ u ∈ xs.flatMap f, u.oneCell' = true := by
  intro u hu
  obtain ⟨x, _, hx⟩ := List.mem_flatMap.1 hu
  exact h x u hx

theorem AtR_of {w : World} {b o : Nat} {r : Ro} (h : ∀ k u, (rcV r)[k]? = some u → w.cell? ⟨b, o + k, none⟩ = some u) : AtR w b o r :=
  ⟨h 0 _ rfl, h 1 _ rfl, h 2 _ rfl, h 3 _ rfl, h 4 _ rfl, h 5 _ rfl, h 6 _ rfl⟩
theorem AtR_get {w : World} {b o : Nat} {r : Ro} (h : AtR w b o r) : ∀ k u, (rcV r)[k]? = some u → w.cell? ⟨b, o + k, none⟩ = some u := by
  obtain ⟨h0, h1, h2, h3, h4, h5, h6⟩ := h
  intro k u hu
  match k, hu with
  | 0, hu => simp only [rcV, List.getElem?_cons_zero, Option.some.injEq] at hu; subst hu; exact h0
  | 1, hu => simp only [rcV, List.getElem?_cons_zero, List.getElem?_cons_succ, Option.some.injEq] at hu; subst hu; exact h1
  | 2, hu => simp only [rcV, List.getElem?_cons_zero, List.getElem?_cons_succ, Option.some.injEq] at hu; subst hu; exact h2
  | 3, hu => simp only [rcV, List.getElem?_cons_zero, List.getElem?_cons_succ, Option.some.injEq] at hu; subst hu; exact h3
  | 4, hu => simp only [rcV, List.getElem?_cons_zero, List.getElem?_cons_succ, Option.some.injEq] at hu; subst hu; exact h4
  | 5, hu => simp only [rcV, List.getElem?_cons_zero, List.getElem?_cons_succ, Option.some.injEq] at hu; subst hu; exact h5
  | 6, hu => simp only [rcV, List.getElem?_cons_zero, List.getElem?_cons_succ, Option.some.injEq] at hu; subst hu; exact h6
  | k + 7, hu => simp [rcV] at hu
theorem AtC_of {w : World} {b o : Nat} {c : Ch} (h : ∀ k u, (ccV c)[k]? = some u → w.cell? ⟨b, o + k, none⟩ = some u) : AtC w b o c :=
  ⟨h 0 _ rfl, h 1 _ rfl, h 2 _ rfl, h 3 _ rfl, h 4 _ rfl, h 5 _ rfl, h 6 _ rfl, h 7 _ rfl, h 8 _ rfl, h 9 _ rfl, h 10 _ rfl, h 11 _ rfl, h 12 _ rfl, h 13 _ rfl, h 14 _ rfl⟩
theorem AtC_get {w : World} {b o : Nat} {c : Ch} (h : AtC w b o c) : ∀ k u, (ccV c)[k]? = some u → w.cell? ⟨b, o + k, none⟩ = some u := by
  obtain ⟨h0, h1, h2, h3, h4, h5, h6, h7, h8, h9, h10, h11, h12, h13, h14⟩ := h
  intro k u hu
  match k, hu with
  | 0, hu => simp only [ccV, List.getElem?_cons_zero, Option.some.injEq] at hu; subst hu; exact h0
  | 1, hu => simp only [ccV, List.getElem?_cons_zero, List.getElem?_cons_succ, Option.some.injEq] at hu; subst hu; exact h1
  | 2, hu => simp only [ccV, List.getElem?_cons_zero, List.getElem?_cons_succ, Option.some.injEq] at hu; subst hu; exact h2
  | 3, hu => simp only [ccV, List.getElem?_cons_zero, List.getElem?_cons_succ, Option.some.injEq] at hu; subst hu; exact h3
  | 4, hu => simp only [ccV, List.getElem?_cons_zero, List.getElem?_cons_succ, Option.some.injEq] at hu; subst hu; exact h4
  | 5, hu => simp only [ccV, List.getElem?_cons_zero, List.getElem?_cons_succ, Option.some.injEq] at hu; subst hu; exact h5
  | 6, hu => simp only [ccV, List.getElem?_cons_zero, List.getElem?_cons_succ, Option.some.injEq] at hu; subst hu; exact h6
  | 7, hu => simp only [ccV, List.getElem?_cons_zero, List.getElem?_cons_succ, Option.some.injEq] at hu; subst hu; exact h7
  | 8, hu => simp only [ccV, List.getElem?_cons_zero, List.getElem?_cons_succ, Option.some.injEq] at hu; subst hu; exact h8
  | 9, hu => simp only [ccV, List.getElem?_cons_zero, List.getElem?_cons_succ, Option.some.injEq] at hu; subst hu; exact h9
  | 10, hu => simp only [ccV, List.getElem?_cons_zero, List.getElem?_cons_succ, Option.some.injEq] at hu; subst hu; exact h10
  | 11, hu => simp only [ccV, List.getElem?_cons_zero, List.getElem?_cons_succ, Option.some.injEq] at hu; subst hu; exact h11
  | 12, hu => simp only [ccV, List.getElem?_cons_zero, List.getElem?_cons_succ, Option.some.injEq] at hu; subst hu; exact h12
  | 13, hu => simp only [ccV, List.getElem?_cons_zero, List.getElem?_cons_succ, Option.some.injEq] at hu; subst hu; exact h13
  | 14, hu => simp only [ccV, List.getElem?_cons_zero, List.getElem?_cons_succ, Option.some.injEq] at hu; subst hu; exact h14
  | k + 15, hu => simp [ccV] at hu

/-- the slice v reads as xs; what it holds lies from block B on -/
def SlR (B : Nat) (w : World) (v : Value) (xs : List Ro) : Prop := ∃ A c, v = .slice A xs.length c ∧ RdR w A xs ∧ (A = none → c = 0) ∧ (∀ a, A = some a → B ≤ a.block) ∧ xs.length ≤ c
def SlC (B : Nat) (w : World) (v : Value) (xs : List Ch) : Prop := ∃ A c, v = .slice A xs.length c ∧ RdC w A xs ∧ (A = none → c = 0) ∧ (∀ a, A = some a → B ≤ a.block) ∧ xs.length ≤ c
theorem SlR.below {B : Nat} {w w' : World} {v : Value} {xs : List Ro} (h : SlR B w v xs) (hb : Below w.heap.size w w') : SlR B w' v xs := by
  obtain ⟨A, c, hv, hr, h1, h2, h3⟩ := h
  exact ⟨A, c, hv, hr.below hb, h1, h2, h3⟩
theorem SlC.below {B : Nat} {w w' : World} {v : Value} {xs : List Ch} (h : SlC B w v xs) (hb : Below w.heap.size w w') : SlC B w' v xs := by
  obtain ⟨A, c, hv, hr, h1, h2, h3⟩ := h
  exact ⟨A, c, hv, hr.below hb, h1, h2, h3⟩

theorem newsR {w : World} {ad : Addr} {xs : List Ro} (h : RdR w (some ad) xs) : ∀ j u, (xs.flatMap rcV)[j]? = some u → w.cell? (ad.add j) = some u := by
  intro j u hu
  rw [flat_get rcV 7 rcV_len (by omega)] at hu
  obtain ⟨r, hr, hu⟩ := Option.bind_eq_some_iff.1 hu
  obtain ⟨b, o, hA, ha⟩ := h _ r hr
  cases hA
  rw [Addr.add_lit]
  have := AtR_get ha _ u hu
  rwa [Nat.add_assoc, Nat.div_add_mod'] at this
theorem newsC {w : World} {ad : Addr} {xs : List Ch} (h : RdC w (some ad) xs) : ∀ j u, (xs.flatMap ccV)[j]? = some u → w.cell? (ad.add j) = some u := by
  intro j u hu
  rw [flat_get ccV 15 ccV_len (by omega)] at hu
  obtain ⟨r, hr, hu⟩ := Option.bind_eq_some_iff.1 hu
  obtain ⟨b, o, hA, ha⟩ := h _ r hr
  cases hA
  rw [Addr.add_lit]
  have := AtC_get ha _ u hu
  rwa [Nat.add_assoc, Nat.div_add_mod'] at this

theorem SlR_of_row {w : World} {base : Nat} {v : Value} {n : Nat} {xs : List Ro} (h : w.ownsRow base 40 7 v n (xs.flatMap rcV)) (hn : xs.length = n) : SlR base w v xs := by
  rcases h.2 with ⟨rfl, h0⟩ | ⟨g, cap, cur, rfl, hb, hg, hnc, _⟩
  · subst h0
    have : xs = [] := List.eq_nil_of_length_eq_zero hn
    subst this
    exact ⟨none, 0, rfl, fun i r hr => by simp at hr, fun _ => rfl, fun a ha => (by cases ha), by simp⟩
  · refine ⟨some ⟨g, 0, none⟩, cap, by rw [hn], fun i r hr => ⟨g, 0, rfl, AtR_of fun k u hu => ?_⟩, fun hA => (by cases hA), fun a ha => (by cases ha; exact hb), by omega⟩
    have hk : k < 7 := by have := (List.getElem?_eq_some_iff.1 hu).1; rwa [rcV_len] at this
    have := h.cells (g := g) rfl (i * 7 + k) u (by
      rw [flat_get rcV 7 rcV_len (by omega), show (i * 7 + k) / 7 = i by omega, show (i * 7 + k) % 7 = k by omega, hr]
      exact hu)
    rw [Addr.add_lit] at this
    rwa [Nat.add_assoc]
theorem SlC_of_row {w : World} {base : Nat} {v : Value} {n : Nat} {xs : List Ch} (h : w.ownsRow base 42 15 v n (xs.flatMap ccV)) (hn : xs.length = n) : SlC base w v xs := by
  rcases h.2 with ⟨rfl, h0⟩ | ⟨g, cap, cur, rfl, hb, hg, hnc, _⟩
  · subst h0
    have : xs = [] := List.eq_nil_of_length_eq_zero hn
    subst this
    exact ⟨none, 0, rfl, fun i r hr => by simp at hr, fun _ => rfl, fun a ha => (by cases ha), by simp⟩
  · refine ⟨some ⟨g, 0, none⟩, cap, by rw [hn], fun i r hr => ⟨g, 0, rfl, AtC_of fun k u hu => ?_⟩, fun hA => (by cases hA), fun a ha => (by cases ha; exact hb), by omega⟩
    have hk : k < 15 := by have := (List.getElem?_eq_some_iff.1 hu).1; rwa [ccV_len] at this
    have := h.cells (g := g) rfl (i * 15 + k) u (by
      rw [flat_get ccV 15 ccV_len (by omega), show (i * 15 + k) / 15 = i by omega, show (i * 15 + k) % 15 = k by omega, hr]
      exact hu)
    rw [Addr.add_lit] at this
    rwa [Nat.add_assoc]

theorem info40 : (Try.prog.info? 40).map (fun i => (i.zero, i.size, i.bytes)) = some (some (.agg #[.int .u32 0, .int .i64 0, .int .i64 0, .int .u64 0, .int .u64 0, .int .u64 0, .int .u64 0]), 7, 56) := by kernel_rfl
theorem info42 : (Try.prog.info? 42).map (fun i => (i.zero, i.size, i.bytes)) = some (some (.agg #[.int .i64 0, .int .u32 0, .int .i64 0, .int .i64 0, .int .u64 0, .int .u64 0, .int .u64 0, .int .u64 0, .int .u32 0, .int .i64 0, .int .i64 0, .int .u64 0, .int .u64 0, .int .u64 0, .int .u64 0]), 15, 120) := by kernel_rfl

/-- a fresh block of no cells, and what is appended to it -/
theorem fresh_row (w : World) (e : TypeId) (size base : Nat) (hb : base ≤ w.heap.size) : (w.alloc (.cells #[] e)).ownsRow base e size (.slice (some ⟨w.heap.size, 0, none⟩) 0 0) 0 [] :=
  World.ownsRow_made w #[] 0 hb (by simp [maxLen]) (by simp)

/-- append([]T{}, xs...) -/
theorem wpList_spreadR {P : Program} {w : World} {ops : Array Oper} {rest : List Oper} {o : Oper} {a : Act} {Q : Exit → Act → World → Prop} (hgd : o.guard = none) (s x : Operand) (t : TypeId)
    (ho : o.op = .call { callee := .builtin .append, args := #[s, x], argTypes := #[t, t] }) (ht : P.underlying t = some (.slice 40)) (hi : (P.info? 40).map (fun i => (i.zero, i.size, i.bytes)) = some (some (.agg #[.int .u32 0, .int .i64 0, .int .i64 0, .int .u64 0, .int .u64 0, .int .u64 0, .int .u64 0]), 7, 56))
    (base : Nat) (v : Value) (hs : a.eval s = v) (hown : w.ownsRow base 40 7 v 0 []) (hv : v ≠ .slice none 0 0) (hbase : base ≤ w.heap.size) (xs : List Ro) (hl : xs.length ≤ 2513169434843) (A : Option Addr) (c : Nat) (hx : a.eval x = .slice A xs.length c) (hr : RdR w A xs) (hA0 : A = none → c = 0)
    (h : ∀ v' w', w'.ownsRow base 40 7 v' xs.length (xs.flatMap rcV) → v' ≠ .slice none 0 0 → w.grownBy w' v.ownBlock → wpList P ops Q rest (a.put o.dst v') w') : wpList P ops Q (o :: rest) a w := by
  obtain ⟨i, hi, hz, hsz, hby⟩ := info_parts hi
  cases A with
  | some ad =>
    refine wpList_append_own w hgd s x t ho base 40 i _ 7 56 ht hi hz hsz hby rfl (by omega) v 0 [] hs hown ad xs.length c (xs.flatMap rcV) hx (flat_len _ 7 rcV_len xs) (newsR hr) (flat_one rcV_one xs) (by simp [maxLen]; omega) (by omega) hbase ?_
    intro v' w' h1 h2 h3
    exact h v' w' (by simpa using h1) (fun e => hv (h3.1 e).1) h2
  | none =>
    have hx0 : xs = [] := by
      cases xs with
      | nil => rfl
      | cons r xs => obtain ⟨b, o, hA, _⟩ := hr 0 r rfl; cases hA
    subst hx0
    refine wpList_plain hgd fun K hK' => ?_
    have hrun := run_append_owned_none (P := P) w base t o.type 40 i 7 ht hi _ 0 [] hown
    obtain rfl := hA0 rfl
    unfold Oper.wp
    simp [execOp, ho, resolve, invoke, builtin, hs, hx, hrun, Result.andThen]
    exact hK' _ _ (h v w hown hv (World.grownBy.refl _ _))

/-- append([]T{}, xs...) -/
theorem wpList_spreadC {P : Program} {w : World} {ops : Array Oper} {rest : List Oper} {o : Oper} {a : Act} {Q : Exit → Act → World → Prop} (hgd : o.guard = none) (s x : Operand) (t : TypeId)
    (ho : o.op = .call { callee := .builtin .append, args := #[s, x], argTypes := #[t, t] }) (ht : P.underlying t = some (.slice 42)) (hi : (P.info? 42).map (fun i => (i.zero, i.size, i.bytes)) = some (some (.agg #[.int .i64 0, .int .u32 0, .int .i64 0, .int .i64 0, .int .u64 0, .int .u64 0, .int .u64 0, .int .u64 0, .int .u32 0, .int .i64 0, .int .i64 0, .int .u64 0, .int .u64 0, .int .u64 0, .int .u64 0]), 15, 120))
    (base : Nat) (v : Value) (hs : a.eval s = v) (hown : w.ownsRow base 42 15 v 0 []) (hv : v ≠ .slice none 0 0) (hbase : base ≤ w.heap.size) (xs : List Ch) (hl : xs.length ≤ 1172812402926) (A : Option Addr) (c : Nat) (hx : a.eval x = .slice A xs.length c) (hr : RdC w A xs) (hA0 : A = none → c = 0)
    (h : ∀ v' w', w'.ownsRow base 42 15 v' xs.length (xs.flatMap ccV) → v' ≠ .slice none 0 0 → w.grownBy w' v.ownBlock → wpList P ops Q rest (a.put o.dst v') w') : wpList P ops Q (o :: rest) a w := by
  obtain ⟨i, hi, hz, hsz, hby⟩ := info_parts hi
  cases A with
  | some ad =>
    refine wpList_append_own w hgd s x t ho base 42 i _ 15 120 ht hi hz hsz hby rfl (by omega) v 0 [] hs hown ad xs.length c (xs.flatMap ccV) hx (flat_len _ 15 ccV_len xs) (newsC hr) (flat_one ccV_one xs) (by simp [maxLen]; omega) (by omega) hbase ?_
    intro v' w' h1 h2 h3
    exact h v' w' (by simpa using h1) (fun e => hv (h3.1 e).1) h2
  | none =>
    have hx0 : xs = [] := by
      cases xs with
      | nil => rfl
      | cons r xs => obtain ⟨b, o, hA, _⟩ := hr 0 r rfl; cases hA
    subst hx0
    refine wpList_plain hgd fun K hK' => ?_
    have hrun := run_append_owned_none (P := P) w base t o.type 42 i 15 ht hi _ 0 [] hown
    obtain rfl := hA0 rfl
    unfold Oper.wp
    simp [execOp, ho, resolve, invoke, builtin, hs, hx, hrun, Result.andThen]
    exact hK' _ _ (h v w hown hv (World.grownBy.refl _ _))

end Go.Proofs.Ytpnhkniegjfncaa
