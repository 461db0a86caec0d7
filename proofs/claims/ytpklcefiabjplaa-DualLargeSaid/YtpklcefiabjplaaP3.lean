/- Ladders: the walk over numbers that stand for labels, and what it answers. -/
import Derived.Test.YtpklcefiabjplaaR22
import Derived.KernelRfl
namespace Go.Proofs.Ytpklcefiabjplaa
def key (x : La) : Nat := (x.r * 2147483648 + x.i) * 128 + x.n.toNat
theorem LaS.nums {x : La} (h : LaS x) : x.r ≤ 1073741824 ∧ x.i ≤ 1073741824 ∧ 0 ≤ x.n ∧ x.n < 128 := by
  have h2 := h.2
  simp only [oks, Bool.and_eq_true, decide_eq_true_eq] at h2
  exact ⟨h.1.1, h.1.2, h2.1, h2.2⟩
theorem cmp_key {x l : La} (hx : LaS x) (hl : LaS l) : cmpLa x l < 0 ↔ key l < key x := by
  obtain ⟨a1, a2, a3, a4⟩ := hx.nums
  obtain ⟨b1, b2, b3, b4⟩ := hl.nums
  unfold cmpLa befL key
  by_cases c1 : x.r < l.r
  · simp [c1]; omega
  · by_cases c2 : l.r < x.r
    · simp [c1, c2, show ¬ x.r = l.r by omega]; omega
    · have c3 : x.r = l.r := by omega
      by_cases d1 : x.i < l.i
      · simp [c3, d1]; omega
      · by_cases d2 : l.i < x.i
        · simp [c3, d1, d2]; omega
        · simp [c3, d1, d2]; omega
theorem bs_at {xs : List La} {l : La} {p : Nat} (h : ∀ i x, xs[i]? = some x → (i < p ↔ cmpLa x l < 0)) : ∀ (f i j : Nat), i ≤ p → p ≤ j → j ≤ xs.length → j - i < 2 ^ f → bsP xs l (f + 1) i j = some p := by
  intro f
  induction f with
  | zero =>
    intro i j h1 h2 h3 h4
    rw [bsP, if_neg (by simp at h4; omega)]
    simp at h4
    rw [show i = p by omega]
  | succ f ih =>
    intro i j h1 h2 h3 h4
    rw [bsP]
    by_cases hij : i < j
    · rw [if_pos hij]
      have hk : (i + j) / 2 < xs.length := by omega
      have hx : xs[(i + j) / 2]? = some xs[(i + j) / 2] := List.getElem?_eq_getElem hk
      rw [hx]
      have h5 := h _ _ hx
      rw [Nat.pow_succ] at h4
      by_cases hc : cmpLa xs[(i + j) / 2] l < 0
      · simp only [hc, if_true]
        exact ih _ _ (by have := h5.2 hc; omega) h2 h3 (by omega)
      · simp only [hc, if_false]
        exact ih _ _ h1 (by have := mt h5.1 hc; omega) (by omega) (by omega)
    · rw [if_neg hij, show i = p by omega]
theorem split_ex (l : La) : ∀ (xs : List La), xs.Pairwise (fun x y => key y ≤ key x) → ∃ A B, xs = A ++ B ∧ (∀ x ∈ A, key l < key x) ∧ (∀ x ∈ B, key x ≤ key l)
  | [], _ => ⟨[], [], rfl, by simp, by simp⟩
  | a :: xs, h => by
    rw [List.pairwise_cons] at h
    by_cases hc : key l < key a
    · obtain ⟨A, B, rfl, h1, h2⟩ := split_ex l xs h.2
      exact ⟨a :: A, B, rfl, fun x hx => by rcases List.mem_cons.1 hx with rfl | hx; exact hc; exact h1 x hx, h2⟩
    · refine ⟨[], a :: xs, rfl, by simp, fun x hx => ?_⟩
      rcases List.mem_cons.1 hx with rfl | hx
      · omega
      · have := h.1 x hx; omega
theorem putP_split {A B : List La} {l : La} (hs : ∀ x ∈ A ++ B, LaS x) (hl : LaS l) (hn : (A ++ B).length ≤ 1000000) (h1 : ∀ x ∈ A, key l < key x) (h2 : ∀ x ∈ B, key x ≤ key l) : putP (A ++ B) l = some (A ++ l :: B) := by
  have h : ∀ i x, (A ++ B)[i]? = some x → (i < A.length ↔ cmpLa x l < 0) := by
    intro i x hx
    rw [cmp_key (hs x (List.mem_of_getElem? hx)) hl]
    by_cases hi : i < A.length
    · rw [List.getElem?_append_left hi] at hx
      have := h1 x (List.mem_of_getElem? hx)
      exact ⟨fun _ => this, fun _ => hi⟩
    · rw [List.getElem?_append_right (by omega)] at hx
      have := h2 x (List.mem_of_getElem? hx)
      exact ⟨fun h => absurd h hi, fun h => by omega⟩
  unfold putP
  rw [bs_at h 63 0 _ (Nat.zero_le _) (by simp) (Nat.le_refl _) (by simp only [Nat.sub_zero]; omega)]
  simp
def fN {β : Type} (n : Nat) (k : Nat → β) : β := match n with | 0 => k 0 | m + 1 => k (Nat.succ m)
theorem fN_eq {β : Type} (n : Nat) (k : Nat → β) : fN n k = k n := by cases n <;> rfl
def insK {β : Type} (x : Nat) : List Nat → (List Nat → β) → β
  | [], k => k [x]
  | y :: ys, k => cond (Nat.ble y x) (insK x ys fun zs => k (y :: zs)) (k (x :: y :: ys))
theorem insK_app {β : Type} (x : Nat) : ∀ (U V : List Nat) (k : List Nat → β), (∀ y ∈ U, y ≤ x) → (∀ y ∈ V, x < y) → insK x (U ++ V) k = k (U ++ x :: V)
  | [], [], k, _, _ => rfl
  | [], v :: V, k, _, h => by
    have : Nat.ble v x = false := by
      have := h v (List.mem_cons_self ..)
      cases hb : Nat.ble v x
      · rfl
      · have := Nat.le_of_ble_eq_true hb; omega
    simp [insK, this]
  | u :: U, V, k, h1, h2 => by
    have : Nat.ble u x = true := Nat.ble_eq_true_of_le (h1 u (List.mem_cons_self ..))
    simp only [List.cons_append, insK, this, cond_true]
    exact insK_app x U V _ (fun y hy => h1 y (List.mem_cons_of_mem _ hy)) h2
def nthK {α : Type} : List α → Nat → Option α
  | [], _ => none
  | x :: _, 0 => some x
  | _ :: xs, n + 1 => nthK xs n
theorem nthK_eq {α : Type} : ∀ (xs : List α) (n : Nat), nthK xs n = xs[n]?
  | [], n => by cases n <;> rfl
  | x :: xs, 0 => rfl
  | x :: xs, n + 1 => by rw [nthK, nthK_eq xs n]; rfl
def setK {β : Type} : List Nat → Nat → Nat → (List Nat → β) → β
  | [], _, _, k => k []
  | _ :: xs, 0, v, k => k (v :: xs)
  | x :: xs, n + 1, v, k => setK xs n v fun ys => k (x :: ys)
theorem setK_eq {β : Type} : ∀ (xs : List Nat) (n v : Nat) (k : List Nat → β), setK xs n v k = k (xs.set n v)
  | [], n, v, k => rfl
  | x :: xs, 0, v, k => rfl
  | x :: xs, n + 1, v, k => by rw [setK, setK_eq xs n v]; rfl
def putsK {β : Type} (r i : Nat) : List (Nat × Nat × Nat) → List Nat → (List Nat → Option β) → Option β
  | [], ys, k => k ys
  | (c, d, t) :: ks, ys, k => cond (Nat.ble (r + c) 1073741824 && Nat.ble (i + d) 1073741824) (fN (((r + c) * 2147483648 + (i + d)) * 128 + t) fun x => insK x ys fun zs => putsK r i ks zs k) none
def walkK (out : List (List (Nat × Nat × Nat))) : Nat → List Nat → List Nat → Option (List Nat × Bool)
  | 0, _, _ => none
  | _ + 1, [], fr => some (fr, false)
  | f + 1, y :: ys, fr => fN (y % 128) fun n => fN (y / 128 % 2147483648) fun i => match nthK fr n with
    | none => none
    | some e => cond (Nat.ble 1 e && Nat.ble (e % 2147483648) i) (walkK out f ys fr)
      (cond (Nat.ble 137438953472 e) (some (fr, true)) (match nthK out n with
        | none => none
        | some ks => fN ((e / 2147483648 + 1) * 2147483648 + i) fun e2 => setK fr n e2 fun fr2 => putsK (y / 128 / 2147483648) i ks ys fun zs => walkK out f zs fr2))
def encF (f : List (Nat × Nat)) : Nat := match f.getLast? with | none => 0 | some p => f.length * 2147483648 + p.2
def lkK (k : Lk) : Nat × Nat × Nat := (k.c.toNat, k.d.toNat, k.t.toNat)
def RelK (xs : List La) (ys : List Nat) : Prop := ys = (xs.map key).reverse ∧ xs.Pairwise (fun x y => key y ≤ key x) ∧ ∀ x ∈ xs, LaS x
theorem ins_RelK {β : Type} {xs : List La} {ys : List Nat} {l : La} (k : List Nat → β) (h : RelK xs ys) (hl : LaS l) (hn : xs.length ≤ 100000) : ∃ xs' zs, putP xs l = some xs' ∧ insK (key l) ys k = k zs ∧ RelK xs' zs ∧ xs'.length = xs.length + 1 := by
  obtain ⟨h1, h2, h3⟩ := h
  obtain ⟨A, B, rfl, a1, a2⟩ := split_ex l xs h2
  refine ⟨A ++ l :: B, _, putP_split h3 hl (by omega) a1 a2, ?_, ⟨rfl, ?_, ?_⟩, by simp; omega⟩
  · rw [h1, List.map_append, List.reverse_append, insK_app (key l) _ _ _ (fun y hy => ?_) (fun y hy => ?_)]
    · simp
    · rw [List.mem_reverse, List.mem_map] at hy
      obtain ⟨x, hx, rfl⟩ := hy
      exact a2 x hx
    · rw [List.mem_reverse, List.mem_map] at hy
      obtain ⟨x, hx, rfl⟩ := hy
      exact a1 x hx
  · rw [List.pairwise_append] at h2 ⊢
    refine ⟨h2.1, List.pairwise_cons.2 ⟨a2, h2.2.1⟩, fun x hx y hy => ?_⟩
    rcases List.mem_cons.1 hy with rfl | hy
    · have := a1 x hx; omega
    · exact h2.2.2 x hx y hy
  · intro x hx
    rcases List.mem_append.1 hx with hx | hx
    · exact h3 x (List.mem_append.2 (.inl hx))
    · rcases List.mem_cons.1 hx with rfl | hx
      · exact hl
      · exact h3 x (List.mem_append.2 (.inr hx))
def okR (ks : List Lk) : Bool := ks.all fun k => decide (0 ≤ k.c) && decide (0 ≤ k.d) && oks k.t
theorem puts_ok {β : Type} (l : La) (k : List Nat → Option β) (res : β) : ∀ (ks : List Lk) (xs : List La) (ys : List Nat), okR ks = true → RelK xs ys → xs.length + ks.length ≤ 100000 → putsK l.r l.i (ks.map lkK) ys k = some res → ∃ xs' zs, putAll xs l ks = some xs' ∧ k zs = some res ∧ RelK xs' zs ∧ xs'.length = xs.length + ks.length
  | [], xs, ys, _, h, _, hr => ⟨xs, ys, rfl, hr, h, rfl⟩
  | q :: ks, xs, ys, ho, h, hn, hr => by
    simp only [okR, List.all_cons, Bool.and_eq_true, decide_eq_true_eq] at ho
    obtain ⟨⟨⟨o1, o2⟩, o3⟩, o4⟩ := ho
    rw [List.map_cons, lkK, putsK] at hr
    have hc : (Nat.ble (l.r + q.c.toNat) 1073741824 && Nat.ble (l.i + q.d.toNat) 1073741824) = true := by
      cases hb : (Nat.ble (l.r + q.c.toNat) 1073741824 && Nat.ble (l.i + q.d.toNat) 1073741824)
      · rw [hb] at hr; cases hr
      · rfl
    rw [hc, cond_true, fN_eq] at hr
    simp only [Bool.and_eq_true] at hc
    have c1 := Nat.le_of_ble_eq_true hc.1
    have c2 := Nat.le_of_ble_eq_true hc.2
    have hls : LaS (lkLa l q) := ⟨⟨c1, c2⟩, o3⟩
    simp only [List.length_cons] at hn
    obtain ⟨xs', zs, p1, p2, p3, p4⟩ := ins_RelK (fun zs => putsK l.r l.i (ks.map lkK) zs k) h hls (by omega)
    change insK (key (lkLa l q)) ys _ = _ at hr
    rw [p2] at hr
    obtain ⟨xs2, zs2, q1, q2, q3, q4⟩ := puts_ok l k res ks xs' zs o4 p3 (by omega) hr
    refine ⟨xs2, zs2, ?_, q2, q3, by rw [q4, p4, List.length_cons]; omega⟩
    rw [putAll, if_pos ⟨o1, o2, c1, c2, o3, by omega⟩, p1]
    exact q1
theorem encF_div {f : List (Nat × Nat)} (h : ∀ p ∈ f, p.2 ≤ big) : encF f / 2147483648 = f.length ∧ encF f % 2147483648 = (match f.getLast? with | none => 0 | some p => p.2) ∧ (1 ≤ encF f ↔ f ≠ []) := by
  unfold encF
  rcases List.eq_nil_or_concat f with rfl | ⟨g, a, rfl⟩
  · simp
  · have ha := h a (by simp)
    unfold big at ha
    simp
    omega

def domF (f : List (Nat × Nat)) (i : Nat) : Bool := match f.getLast? with | some p => decide (p.2 ≤ i) | none => false
theorem keepP_eq (fr : List (List (Nat × Nat))) (er : Int) (l : La) (f : List (Nat × Nat)) : keepP fr er l f = if domF f l.i = true then (fr, er, false, false) else if 64 ≤ f.length then (fr, 7, false, true) else (fr.set l.n.toNat (f ++ [(l.r, l.i)]), er, true, false) := rfl
theorem domF_nil (i : Nat) : domF [] i = false := rfl
theorem domF_concat (g : List (Nat × Nat)) (a : Nat × Nat) (i : Nat) : domF (g.concat a) i = Nat.ble a.2 i := by
  unfold domF
  rw [List.concat_eq_append, List.getLast?_concat]
  simp only []
  cases h : Nat.ble a.2 i
  · simp only [decide_eq_false_iff_not]
    intro hc
    rw [Nat.ble_eq_true_of_le hc] at h
    cases h
  · simp only [decide_eq_true_eq]
    exact Nat.le_of_ble_eq_true h
theorem walkK_ok (out : List (List Lk)) (ho : ∀ (n : Nat) ks, out[n]? = some ks → okR ks = true ∧ ks.length ≤ 2) : ∀ (f : Nat) (xs : List La) (ys : List Nat) (fr : List (List (Nat × Nat))) (frK : List Nat) (stop : Bool), RelK xs ys → xs.length + 2 * f ≤ 100000 → (∀ g ∈ fr, ∀ p ∈ g, p.2 ≤ big) → walkK (out.map fun ks => ks.map lkK) f ys (fr.map encF) = some (frK, stop) → ∃ res, walkP out f xs fr 0 = some (res, if stop = true then 7 else 0) ∧ res.map encF = frK ∧ ∀ g ∈ res, ∀ p ∈ g, p.2 ≤ big := by
  intro f
  induction f with
  | zero => intro xs ys fr frK stop _ _ _ h; cases h
  | succ f ih =>
    intro xs ys fr frK stop hr hn hb h
    have hys := hr.1
    rcases List.eq_nil_or_concat xs with rfl | ⟨A, l, rfl⟩
    · simp only [List.map_nil, List.reverse_nil] at hys
      subst hys
      rw [walkK] at h
      simp only [Option.some.injEq, Prod.mk.injEq] at h
      obtain ⟨rfl, rfl⟩ := h
      exact ⟨fr, by rw [walkP]; rfl, rfl, hb⟩
    · have hl : LaS l := hr.2.2 l (by simp)
      obtain ⟨b1, b2, b3, b4⟩ := hl.nums
      have hAr : RelK A (A.map key).reverse := ⟨rfl, by have := hr.2.1; rw [List.concat_eq_append, List.pairwise_append] at this; exact this.1, fun x hx => hr.2.2 x (by simp [hx])⟩
      rw [List.concat_eq_append] at hn ⊢
      rw [List.concat_eq_append, List.map_append, List.map_cons, List.map_nil, List.reverse_append, List.reverse_cons, List.reverse_nil, List.nil_append, List.cons_append, List.nil_append] at hys
      subst hys
      simp only [List.length_append, List.length_cons, List.length_nil] at hn
      have k1 : key l % 128 = l.n.toNat := by unfold key; omega
      have k2 : key l / 128 = l.r * 2147483648 + l.i := by unfold key; omega
      have k3 : key l / 128 % 2147483648 = l.i := by rw [k2]; omega
      have k4 : key l / 128 / 2147483648 = l.r := by rw [k2]; omega
      rw [walkK, fN_eq, fN_eq, k1, k3, k4, nthK_eq, nthK_eq, List.getElem?_map, List.getElem?_map] at h
      rw [walkP, List.getLast?_concat]
      simp only [List.length_append, List.length_cons, List.length_nil]
      rw [if_pos (by omega)]
      cases hfl : fr[l.n.toNat]? with
      | none => rw [hfl] at h; cases h
      | some fl =>
        rw [hfl] at h
        simp only [Option.map_some] at h
        obtain ⟨e1, e2, e3⟩ := encF_div (hb fl (List.mem_of_getElem? hfl))
        simp only []
        have hdom : (Nat.ble 1 (encF fl) && Nat.ble (encF fl % 2147483648) l.i) = domF fl l.i := by
          rw [e2]
          rcases List.eq_nil_or_concat fl with rfl | ⟨g, a, rfl⟩
          · rfl
          · rw [Nat.ble_eq_true_of_le (e3.2 (by simp)), domF_concat, Bool.true_and, List.concat_eq_append, List.getLast?_concat]
        rw [hdom] at h
        cases hd : domF fl l.i with
        | true =>
          rw [hd, cond_true] at h
          have hkp : keepP fr 0 l fl = (fr, 0, false, false) := by rw [keepP_eq, if_pos hd]
          rw [hkp]
          simp only [Bool.false_eq_true, if_false, List.dropLast_concat]
          exact ih A _ fr frK stop hAr (by omega) hb h
        | false =>
          rw [hd, cond_false] at h
          have hdf : ¬ domF fl l.i = true := by rw [hd]; decide
          by_cases h64 : 64 ≤ fl.length
          · rw [Nat.ble_eq_true_of_le (by omega : 137438953472 ≤ encF fl), cond_true] at h
            simp only [Option.some.injEq, Prod.mk.injEq] at h
            obtain ⟨rfl, rfl⟩ := h
            have hkp : keepP fr 0 l fl = (fr, 7, false, true) := by rw [keepP_eq, if_neg hdf, if_pos h64]
            rw [hkp]
            simp only [if_true]
            exact ⟨fr, rfl, rfl, hb⟩
          · have hnb : Nat.ble 137438953472 (encF fl) = false := by
              cases hx : Nat.ble 137438953472 (encF fl)
              · rfl
              · have := Nat.le_of_ble_eq_true hx; omega
            rw [hnb, cond_false] at h
            have hkp : keepP fr 0 l fl = (fr.set l.n.toNat (fl ++ [(l.r, l.i)]), 0, true, false) := by rw [keepP_eq, if_neg hdf, if_neg h64]
            rw [hkp]
            simp only [Bool.false_eq_true, if_false, List.dropLast_concat]
            cases hks : out[l.n.toNat]? with
            | none => rw [hks] at h; cases h
            | some ks =>
              rw [hks] at h
              simp only [Option.map_some] at h
              rw [fN_eq, setK_eq] at h
              obtain ⟨o1, o2⟩ := ho _ _ hks
              obtain ⟨xs', zs, p1, p2, p3, p4⟩ := puts_ok l _ _ ks A _ o1 hAr (by omega) h
              simp only [p1, Option.bind_some]
              have hfr : (fr.map encF).set l.n.toNat ((encF fl / 2147483648 + 1) * 2147483648 + l.i) = (fr.set l.n.toNat (fl ++ [(l.r, l.i)])).map encF := by
                rw [List.map_set]
                congr 1
                rw [e1]
                simp [encF]
              rw [hfr] at p2
              refine ih xs' zs _ frK stop p3 (by omega) (fun g hg p hp => ?_) p2
              rcases List.mem_or_eq_of_mem_set hg with hg | rfl
              · exact hb g hg p hp
              · rcases List.mem_append.1 hp with hp | hp
                · exact hb fl (List.mem_of_getElem? hfl) p hp
                · simp at hp; subst hp; exact b2
def nsL (n : Nat) : List Nd := (List.range (2 * n + 1)).map fun (i : Nat) => (⟨(i : Int)⟩ : Nd)
def lsL (n : Nat) : List Lk := (List.range n).flatMap fun (i : Nat) => [⟨2 * (i : Int), 2 * (i : Int) + 1, 1, ((2 ^ i : Nat) : Int) + 1⟩, ⟨2 * (i : Int), 2 * (i : Int) + 2, ((2 ^ i : Nat) : Int) + 2, 1⟩, ⟨2 * (i : Int) + 1, 2 * (i : Int) + 2, 1, 0⟩]
def frc {α β : Type} (f : α → (α → β) → β) : List α → (List α → β) → β
  | [], k => k []
  | x :: xs, k => f x fun x => frc f xs fun xs => k (x :: xs)
theorem frc_eq {α β : Type} (f : α → (α → β) → β) (hf : ∀ x k, f x k = k x) : ∀ (xs : List α) (k : List α → β), frc f xs k = k xs
  | [], k => rfl
  | x :: xs, k => by rw [frc, hf, frc_eq f hf xs]
def frT {β : Type} (x : Nat × Nat × Nat) (k : Nat × Nat × Nat → β) : β := match x with | (a, b, c) => fN a fun a => fN b fun b => fN c fun c => k (a, b, c)
theorem frT_eq {β : Type} (x : Nat × Nat × Nat) (k : Nat × Nat × Nat → β) : frT x k = k x := by obtain ⟨a, b, c⟩ := x; simp [frT, fN_eq]
def ansK (n a b : Nat) : Option (Nat × Bool × Nat) := frc (fun r k => frc frT r k) ((viewL (lsL n)).map fun ks => ks.map lkK) fun out => (walkK out 600 [a] (List.replicate 128 0)).bind fun r => (nthK r.1 b).map fun e => (r.1.length, r.2, e / 2147483648)
theorem ansK_eq (n a b : Nat) : ansK n a b = (walkK ((viewL (lsL n)).map fun ks => ks.map lkK) 600 [a] (List.replicate 128 0)).bind fun r => (nthK r.1 b).map fun e => (r.1.length, r.2, e / 2147483648) := by
  unfold ansK
  exact frc_eq _ (fun x k => frc_eq _ frT_eq x k) _ _
def okL (n : Nat) : Bool := (viewL (lsL n)).all fun ks => okR ks && decide (ks.length ≤ 2)
theorem walk_of (n a b m q : Nat) (s : Bool) (ha : a < 128) (hk : okL n = true) (h : ansK n a b = some (m, s, q)) : ∃ res fb0, walkP (viewL (lsL n)) 600 [⟨0, 0, (a : Int)⟩] f128 0 = some (res, if s = true then 7 else 0) ∧ res[b]? = some fb0 ∧ fb0.length = q := by
  rw [ansK_eq, Option.bind_eq_some_iff] at h
  obtain ⟨⟨frK, s2⟩, h1, h2⟩ := h
  rw [nthK_eq, Option.map_eq_some_iff] at h2
  obtain ⟨e, h2, h3⟩ := h2
  simp only [Prod.mk.injEq] at h3
  obtain ⟨rfl, rfl, rfl⟩ := h3
  have hkk : ∀ (i : Nat) ks, (viewL (lsL n))[i]? = some ks → okR ks = true ∧ ks.length ≤ 2 := fun i ks hi => by
    have := List.all_eq_true.1 hk ks (List.mem_of_getElem? hi)
    simpa using this
  have h0 : (List.replicate 128 0 : List Nat) = f128.map encF := by unfold f128; rw [List.map_replicate]; rfl
  rw [h0] at h1
  obtain ⟨res, r1, r2, r3⟩ := walkK_ok _ hkk 600 [⟨0, 0, (a : Int)⟩] [a] f128 frK s2 ⟨by simp [key], by simp, fun x hx => by
    simp only [List.mem_cons, List.not_mem_nil, or_false] at hx
    subst hx
    exact ⟨⟨Nat.zero_le _, Nat.zero_le _⟩, by simp [oks]; omega⟩⟩ (by simp) (fun g hg p hp => by
    unfold f128 at hg
    rw [List.mem_replicate] at hg
    rw [hg.2] at hp
    cases hp) h1
  rw [← r2, List.getElem?_map, Option.map_eq_some_iff] at h2
  obtain ⟨fb0, f1, f2⟩ := h2
  refine ⟨res, fb0, r1, f1, ?_⟩
  rw [← f2]
  exact ((encF_div (r3 fb0 (List.mem_of_getElem? f1))).1).symm
def ladB (n : Nat) : Bool := sndB (nsL n) (lsL n) && (treeP (viewL (lsL n)) 0).isSome && (treeP (viewL (lsL n)) ((2 * n : Nat) : Int)).isSome && okL n && (match ansK n 0 (2 * n) with | some (_, s, q) => if 6 < n then s else !s && q == 2 ^ n | none => false) && (match ansK n (2 * n) 0 with | some (_, s, q) => !s && q == 0 | none => false)
theorem lad1 : ladB 1 = true := by kernel_rfl
theorem lad2 : ladB 2 = true := by kernel_rfl
theorem lad3 : ladB 3 = true := by kernel_rfl
theorem lad4 : ladB 4 = true := by kernel_rfl
theorem lad5 : ladB 5 = true := by kernel_rfl
theorem lad6 : ladB 6 = true := by kernel_rfl
theorem lad7 : ladB 7 = true := by kernel_rfl
theorem lad8 : ladB 8 = true := by kernel_rfl
theorem lad9 : ladB 9 = true := by kernel_rfl
theorem lad {n : Nat} (h1 : 1 ≤ n) (h2 : n ≤ 9) : ladB n = true := by
  have : n = 1 ∨ n = 2 ∨ n = 3 ∨ n = 4 ∨ n = 5 ∨ n = 6 ∨ n = 7 ∨ n = 8 ∨ n = 9 := by omega
  rcases this with rfl | rfl | rfl | rfl | rfl | rfl | rfl | rfl | rfl
  · exact lad1
  · exact lad2
  · exact lad3
  · exact lad4
  · exact lad5
  · exact lad6
  · exact lad7
  · exact lad8
  · exact lad9
/-- what the law needs to know of a ladder -/
theorem lad_all {n : Nat} (h1 : 1 ≤ n) (h2 : n ≤ 9) : SndG (nsL n) (lsL n) [] ∧
    (∃ ds res fb0, treeP (viewL (lsL n)) 0 = some ds ∧ walkP (viewL (lsL n)) 600 [⟨0, 0, 0⟩] f128 0 = some (res, if 6 < n then 7 else 0) ∧ res[2 * n]? = some fb0 ∧ (n ≤ 6 → fb0.length = 2 ^ n)) ∧
    (∃ ds res fb0, treeP (viewL (lsL n)) ((2 * n : Nat) : Int) = some ds ∧ walkP (viewL (lsL n)) 600 [⟨0, 0, ((2 * n : Nat) : Int)⟩] f128 0 = some (res, 0) ∧ res[0]? = some fb0 ∧ fb0.length = 0) := by
  have h := lad h1 h2
  unfold ladB at h
  simp only [Bool.and_eq_true] at h
  obtain ⟨⟨⟨⟨⟨a1, a2⟩, a3⟩, a4⟩, a5⟩, a6⟩ := h
  obtain ⟨d1, e1⟩ := Option.isSome_iff_exists.1 a2
  obtain ⟨d2, e2⟩ := Option.isSome_iff_exists.1 a3
  refine ⟨sndB_ok a1, ?_, ?_⟩
  · cases hx : ansK n 0 (2 * n) with
    | none => rw [hx] at a5; cases a5
    | some p =>
      obtain ⟨m, s, q⟩ := p
      rw [hx] at a5
      obtain ⟨res, fb0, r1, r2, r3⟩ := walk_of n 0 (2 * n) m q s (by omega) a4 hx
      by_cases h6 : 6 < n
      · simp only [if_pos h6] at a5
        subst a5
        exact ⟨d1, res, fb0, e1, by rw [if_pos h6]; exact r1, r2, fun h => by omega⟩
      · simp only [if_neg h6, Bool.and_eq_true, Bool.not_eq_true', beq_iff_eq] at a5
        obtain ⟨rfl, rfl⟩ := a5
        exact ⟨d1, res, fb0, e1, by rw [if_neg h6]; exact r1, r2, fun _ => r3⟩
  · cases hx : ansK n (2 * n) 0 with
    | none => rw [hx] at a6; cases a6
    | some p =>
      obtain ⟨m, s, q⟩ := p
      rw [hx] at a6
      simp only [Bool.and_eq_true, Bool.not_eq_true', beq_iff_eq] at a6
      obtain ⟨rfl, rfl⟩ := a6
      obtain ⟨res, fb0, r1, r2, r3⟩ := walk_of n (2 * n) 0 m 0 false (by omega) a4 hx
      exact ⟨d2, res, fb0, e2, r1, r2, r3⟩
end Go.Proofs.Ytpklcefiabjplaa
