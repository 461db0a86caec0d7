/- A row copied by the spread of an append; slices.Clone; conditions as stated. Sorting in place: exchanges, blocks, merging, said of lists of numbers; plain; conditions as stated. The order of nodes by their distance: what a comparison of two nodes answers; conditions as stated. Two numbers of a row change places; two ranges do; conditions as stated. The sort by insertion; conditions as stated. Two blocks of a row change places; conditions as stated. -/
import Derived.Test.YtjbglifmppilfaaDoorS13
import Derived.RangeFuncNested
import Derived.RangeFuncBound
import Derived.RangeFuncCalls
import Derived.RangeFuncLeaves
import Derived.Shelf.Abstract
import Derived.Shelf.RegionOpen
import Derived.WalkKit
import Derived.OwnWalkIn
import Derived.TacticsInMore
import Derived.LoopNIn
import Derived.LoopIn
import Derived.Test.YtjbglifmppilfaaDoorS12
import Derived.Test.YtjbglifmppilfaaDoorS9
namespace Go.Proofs.YtjbglifmppilfaaDoor
open Go.ChangeShapes Go.WideShapes Go.ChangeAt Go.RowKit
set_option linter.unusedVariables false
set_option linter.unusedSimpArgs false
attribute [local go_sem] Og.Opt Og.OpY Oper.semAt_some

set_option maxRecDepth 100000 in
theorem run_spreadG {α : Type} (f : α → List Value) (m sl ty by' : Nat) {z : Value} (hm : ∀ x, (f x).length = m) (h1 : ∀ x, ∀ u ∈ f x, u.oneCell' = true) (h0 : 0 < m)
    (hu : Tryd.prog.underlying sl = some (.slice ty)) (hinf : (Tryd.prog.info? ty).map (fun i => (i.zero, i.size, i.bytes)) = some (some z, m, by')) (hzs : z.cells.size = m)
    {w : World} (rt : TypeId) (base g : Nat) (A : Option Addr) (c : Nat) (xs : List α) (hg : w.heap[g]? = some (.cells #[] ty (0, 0))) (hbg : base ≤ g) (hbw : base ≤ w.heap.size) (hr : Rd f m w A xs) (hA0 : A = none → c = 0) (hl : xs.length ≤ maxLen) (hby : xs.length * by' ≤ 140737488355328) :
    ∃ v' w', (Builtin.append_ #[sl, sl] rt #[.slice (some ⟨g, 0, none⟩) 0 0, .slice A xs.length c]).run Tryd.prog w = .ok v' w' ∧ w'.ownsRow base ty m v' xs.length (xs.flatMap f) ∧ v' ≠ .slice none 0 0 ∧ Below w.heap.size w w' ∧ (xs ≠ [] → v'.ownBlock = some w.heap.size) := by
  obtain ⟨i, hi, hz, hsz, hbb⟩ := info_parts hinf
  cases xs with
  | nil =>
    refine ⟨.slice (some ⟨g, 0, none⟩) 0 0, w, ?_, ⟨by simp, .inr ⟨g, 0, #[], rfl, hbg, hg, Nat.le_refl _, Nat.zero_le _, by simp, by simp⟩⟩, by simp, Below.refl _ _, fun h => absurd rfl h⟩
    cases A with
    | none =>
      obtain rfl := hA0 rfl
      simp [Builtin.append_, run_underlying hu, sizeOf, typeInfo, hi, Builtin.lenOf, Builtin.firstCells, loadCells, loadCellsFrom, storeCells]
    | some a => simp [Builtin.append_, run_underlying hu, sizeOf, typeInfo, hi, Builtin.lenOf, Builtin.firstCells, loadCells, loadCellsFrom, storeCells]
  | cons x xs =>
    obtain ⟨b, o, rfl, -⟩ := hr 0 x rfl
    obtain ⟨n, hn⟩ : ∃ n, n = (x :: xs).length := ⟨_, rfl⟩
    have hn0 : 0 < n := by rw [hn]; simp
    have hlen : ((x :: xs).flatMap f).length = n * i.size := by rw [flat_len f m hm, hsz, hn]
    have hnews := news_rd hm h0 hr
    rw [← hn] at hl hby ⊢
    have hr2 := run_append_grow (P := Tryd.prog) w sl rt ty i z hu hi hz ⟨g, 0, none⟩ 0 0 [] (by simp) (by simp) ⟨b, o, none⟩ n c ((x :: xs).flatMap f) hlen hnews (by omega) (by have := hl; simp only [maxLen] at this; omega) (growslice_fits (by omega) (by rw [hbb, Nat.zero_add]; exact hby))
    have hge := grownCap_ge w (0 + n) 0 ty
    have hcm : grownCap w (0 + n) 0 ty ≤ maxLen := grownCap_le_maxLen w (0 + n) 0 ty (by omega)
    refine ⟨_, _, hr2, ?_, by simp, (Below.refl _ _).drew.alloc (Nat.le_refl _) _, fun _ => rfl⟩
    rw [Nat.zero_add] at hge hcm ⊢
    refine ⟨by rw [hlen, hsz], .inr ⟨w.heap.size, _, _, rfl, hbw, heap_alloc_new w.drew _, hge, hcm, ?_, ?_⟩⟩
    · simp only [Array.size_append, List.size_toArray, size_zeroCells, hzs, List.length_nil, Nat.zero_add, hlen, hsz]
      rw [← Nat.add_mul]
      congr 1
      omega
    · simp only [Array.toList_append, List.nil_append, ← hsz, ← hlen]
      exact List.take_left
theorem wpList_spreadB {α : Type} (f : α → List Value) (m sl ty by' : Nat) {z : Value} (hm : ∀ x, (f x).length = m) (h1 : ∀ x, ∀ u ∈ f x, u.oneCell' = true) (h0 : 0 < m)
    (hu : Tryd.prog.underlying sl = some (.slice ty)) (hinf : (Tryd.prog.info? ty).map (fun i => (i.zero, i.size, i.bytes)) = some (some z, m, by')) (hzs : z.cells.size = m)
    {ops : Array Oper} {rest : List Oper} {o : Oper} {a : Act} {w : World} {Q : Exit → Act → World → Prop} (hgd : o.guard = none) (s x : Operand) (ho : o.op = .call { callee := .builtin .append, args := #[s, x], argTypes := #[sl, sl] })
    (base g : Nat) (A : Option Addr) (c : Nat) (xs : List α) (hs : a.eval s = .slice (some ⟨g, 0, none⟩) 0 0) (hx : a.eval x = .slice A xs.length c) (hg : w.heap[g]? = some (.cells #[] ty (0, 0))) (hbg : base ≤ g) (hbw : base ≤ w.heap.size) (hr : Rd f m w A xs) (hA0 : A = none → c = 0) (hl : xs.length ≤ maxLen) (hby : xs.length * by' ≤ 140737488355328)
    (h : ∀ v' w', w'.ownsRow base ty m v' xs.length (xs.flatMap f) → v' ≠ .slice none 0 0 → Below w.heap.size w w' → wpList Tryd.prog ops Q rest (a.put o.dst v') w') : wpList Tryd.prog ops Q (o :: rest) a w := by
  obtain ⟨v', w', hrun, r1, r2, r3, _⟩ := run_spreadG f m sl ty by' hm h1 h0 hu hinf hzs o.type base g A c xs hg hbg hbw hr hA0 hl hby
  exact Lib.wpList_append_run w hgd s x sl sl ho _ _ hs hx v' w' hrun (h v' w' r1 r2 r3)
theorem opt_spreadB {α : Type} (f : α → List Value) (m sl ty by' : Nat) {z : Value} (hm : ∀ x, (f x).length = m) (h1 : ∀ x, ∀ u ∈ f x, u.oneCell' = true) (h0 : 0 < m)
    (hu : Tryd.prog.underlying sl = some (.slice ty)) (hinf : (Tryd.prog.info? ty).map (fun i => (i.zero, i.size, i.bytes)) = some (some z, m, by')) (hzs : z.cells.size = m)
    {ops : Array Oper} {o : Oper} {a : Act} {w : World} {R : Value → World → Prop} (hw : Region.wanted o (yielded ops a.tmps) = true) (s x : Operand) (ho : o.op = .call { callee := .builtin .append, args := #[s, x], argTypes := #[sl, sl] })
    (base g : Nat) (A : Option Addr) (c : Nat) (xs : List α) (hs : a.eval s = .slice (some ⟨g, 0, none⟩) 0 0) (hx : a.eval x = .slice A xs.length c) (hg : w.heap[g]? = some (.cells #[] ty (0, 0))) (hbg : base ≤ g) (hbw : base ≤ w.heap.size) (hr : Rd f m w A xs) (hA0 : A = none → c = 0) (hl : xs.length ≤ maxLen) (hby : xs.length * by' ≤ 140737488355328)
    (h : ∀ v' w', w'.ownsRow base ty m v' xs.length (xs.flatMap f) → Below w.heap.size w w' → R v' w') : Og.OptB Tryd.prog ops o a w R := by
  obtain ⟨v', w', hrun, r1, r2, r3, _⟩ := run_spreadG f m sl ty by' hm h1 h0 hu hinf hzs o.type base g A c xs hg hbg hbw hr hA0 hl hby
  refine ⟨opt_of_wanted hw ?_⟩
  unfold Og.OpY
  simp [execOp, ho, resolve, invoke, builtin, hs, hx, hrun, Result.andThen]
  exact h v' w' r1 r3
theorem dC_flat (ds : List Int) : ds.flatMap cI = dC ds := by
  induction ds with
  | nil => rfl
  | cons d ds ih => rw [List.flatMap_cons, ih]; rfl
set_option maxRecDepth 100000 in
set_option maxHeartbeats 2000000 in
theorem CloneI_ok (xs : List Int) (A : Addr) (c : Nat) (w : World) (hr : Rd cI 1 w (some A) xs) (hl : xs.length ≤ 1000) :
    Calls Tryd.prog 30 #[.slice (some A) xs.length c] w fun e w' => (∃ v, e = .returned v ∧ w'.ownsRow w.heap.size 3 1 v xs.length (xs.flatMap cI)) ∧ Below w.heap.size w w' := by
  obtain ⟨n, hn⟩ : ∃ n, n = xs.length := ⟨_, rfl⟩
  rw [← hn]
  have HN := Lib.hid hn
  have HR := Lib.hid hr
  have HL := Lib.hid hl
  clear hr hn hl
  have qn : ∀ (w : World) (a : Option Addr) (n c : Nat), (binOp .eql 22 (.slice a n c) (.slice none 0 0)).run Tryd.prog w = .ok (.bool a.isNone) w := fun w a n c => Lib.run_eql_slice_nil w _ _ a n c 0 0 Tryd.underlying22
  go_enter Tryd.func30, Tryd.ntmps30
  go_wp2_with (at_builtin; refine wpList_spreadB cI 1 22 3 8 cI_len cI_one (by omega) Tryd.underlying22 cinfo3 rfl rfl (.tmp 5) (.tmp 6) rfl w.heap.size w.heap.size (some A) c xs rfl (by rw [← HN.out]; rfl) (heap_at rfl) (Nat.le_refl _) (by simp) (HR.out.below ((Below.refl _ _).alloc (Nat.le_refl _) _)) (fun h => by cases h) (by have := HL.out; have := maxLen_ge; omega) (by have := HL.out; omega) ?_; intro v' w' hown hv hb)
  go_ret
  rw [HN.out]
  exact ⟨⟨_, rfl, hown⟩, ((Below.refl _ _).alloc (Nat.le_refl _) _).trans (hb.mono (by simp))⟩
set_option maxRecDepth 100000 in
set_option maxHeartbeats 2000000 in
theorem CloneM_ok (xs : List Nat) (A : Addr) (c : Nat) (w : World) (hr : Rd cM 2 w (some A) xs) (hl : xs.length ≤ 1000) :
    Calls Tryd.prog 31 #[.slice (some A) xs.length c] w fun e w' => (∃ v, e = .returned v ∧ w'.ownsRow w.heap.size 35 2 v xs.length (xs.flatMap cM)) ∧ Below w.heap.size w w' := by
  obtain ⟨n, hn⟩ : ∃ n, n = xs.length := ⟨_, rfl⟩
  rw [← hn]
  have HN := Lib.hid hn
  have HR := Lib.hid hr
  have HL := Lib.hid hl
  clear hr hn hl
  have qn : ∀ (w : World) (a : Option Addr) (n c : Nat), (binOp .eql 23 (.slice a n c) (.slice none 0 0)).run Tryd.prog w = .ok (.bool a.isNone) w := fun w a n c => Lib.run_eql_slice_nil w _ _ a n c 0 0 Tryd.underlying23
  go_enter Tryd.func31, Tryd.ntmps31
  go_wp2_with (at_builtin; refine wpList_spreadB cM 2 23 35 16 cM_len cM_one (by omega) Tryd.underlying23 cinfo25 rfl rfl (.tmp 5) (.tmp 6) rfl w.heap.size w.heap.size (some A) c xs rfl (by rw [← HN.out]; rfl) (heap_at rfl) (Nat.le_refl _) (by simp) (HR.out.below ((Below.refl _ _).alloc (Nat.le_refl _) _)) (fun h => by cases h) (by have := HL.out; have := maxLen_ge; omega) (by have := HL.out; omega) ?_; intro v' w' hown hv hb)
  go_ret
  rw [HN.out]
  exact ⟨⟨_, rfl, hown⟩, ((Below.refl _ _).alloc (Nat.le_refl _) _).trans (hb.mono (by simp))⟩

end Go.Proofs.YtjbglifmppilfaaDoor
set_option linter.unusedVariables false
namespace Go.Proofs.YtjbglifmppilfaaDoor
/-- the number at a place -/
def gt (xs : List Nat) (t : Nat) : Nat := xs.getD t 0
def ky (k : Nat → Int) (xs : List Nat) (t : Nat) : Int := k (gt xs t)
def Up (k : Nat → Int) (xs : List Nat) (a b : Nat) : Prop := ∀ i j, a ≤ i → i < j → j < b → ky k xs i ≤ ky k xs j
/-- only places from a on and below b have changed, among themselves -/
structure RP (a b : Nat) (xs ys : List Nat) : Prop where
  perm : ys.Perm xs
  out : ∀ i, (i < a ∨ b ≤ i) → gt ys i = gt xs i
  src : ∀ i, a ≤ i → i < b → ∃ j, a ≤ j ∧ j < b ∧ gt ys i = gt xs j
def swp (xs : List Nat) (i j : Nat) : List Nat := (xs.set i (gt xs j)).set j (gt xs i)
theorem gt_set {xs : List Nat} {i v : Nat} (h : i < xs.length) (t : Nat) : gt (xs.set i v) t = if t = i then v else gt xs t := by
  unfold gt
  rw [List.getD_eq_getElem?_getD, List.getD_eq_getElem?_getD, List.getElem?_set]
  by_cases e : i = t
  · subst e; simp [h]
  · rw [if_neg e, if_neg (Ne.symm e)]
theorem gt_some {xs : List Nat} {t : Nat} (h : t < xs.length) : xs[t]? = some (gt xs t) := by
  unfold gt
  rw [List.getD_eq_getElem?_getD, List.getElem?_eq_getElem h]; rfl
theorem swp_len (xs : List Nat) (i j : Nat) : (swp xs i j).length = xs.length := by simp [swp]
theorem swp_gt {xs : List Nat} {i j : Nat} (hi : i < xs.length) (hj : j < xs.length) (t : Nat) : gt (swp xs i j) t = if t = j then gt xs i else if t = i then gt xs j else gt xs t := by
  unfold swp
  rw [gt_set (by simpa using hj), gt_set hi]
theorem swp_perm {xs : List Nat} {i j : Nat} (hi : i < xs.length) (hj : j < xs.length) : (swp xs i j).Perm xs := by
  have e1 : gt xs j = xs[j] := by unfold gt; rw [List.getD_eq_getElem?_getD, List.getElem?_eq_getElem hj]; rfl
  have e2 : gt xs i = xs[i] := by unfold gt; rw [List.getD_eq_getElem?_getD, List.getElem?_eq_getElem hi]; rfl
  unfold swp
  rw [e1, e2]
  exact List.set_set_perm hi hj
section
variable {a b : Nat} {xs ys zs : List Nat} {k : Nat → Int}
theorem RP.len (h : RP a b xs ys) : ys.length = xs.length := h.perm.length_eq
theorem RP.refl (a b : Nat) (xs : List Nat) : RP a b xs xs := ⟨List.Perm.refl _, fun _ _ => rfl, fun i h1 h2 => ⟨i, h1, h2, rfl⟩⟩
theorem RP.trans (h : RP a b xs ys) (h' : RP a b ys zs) : RP a b xs zs := by
  refine ⟨h'.perm.trans h.perm, fun i hi => (h'.out i hi).trans (h.out i hi), fun i h1 h2 => ?_⟩
  obtain ⟨j, j1, j2, e⟩ := h'.src i h1 h2
  obtain ⟨l, l1, l2, e'⟩ := h.src j j1 j2
  exact ⟨l, l1, l2, e.trans e'⟩
theorem RP.mono {a' b' : Nat} (h : RP a b xs ys) (ha : a' ≤ a) (hb : b ≤ b') : RP a' b' xs ys := by
  refine ⟨h.perm, fun i hi => h.out i (by omega), fun i h1 h2 => ?_⟩
  by_cases hi : a ≤ i ∧ i < b
  · obtain ⟨j, j1, j2, e⟩ := h.src i hi.1 hi.2
    exact ⟨j, by omega, by omega, e⟩
  · exact ⟨i, h1, h2, h.out i (by omega)⟩
theorem RP.swp {i j : Nat} (hi : a ≤ i) (hi' : i < b) (hj : a ≤ j) (hj' : j < b) (hb : b ≤ xs.length) : RP a b xs (swp xs i j) := by
  refine ⟨swp_perm (by omega) (by omega), fun t ht => ?_, fun t t1 t2 => ?_⟩
  · rw [swp_gt (by omega) (by omega), if_neg (by omega), if_neg (by omega)]
  · rw [swp_gt (by omega) (by omega)]
    by_cases e : t = j
    · rw [if_pos e]; exact ⟨i, hi, hi', rfl⟩
    · rw [if_neg e]
      by_cases e' : t = i
      · rw [if_pos e']; exact ⟨j, hj, hj', rfl⟩
      · rw [if_neg e']; exact ⟨t, t1, t2, rfl⟩
theorem Up.nil (h : b ≤ a + 1) : Up k xs a b := fun i j h1 h2 h3 => by omega
theorem Up.sub {a' b' : Nat} (h : Up k xs a b) (ha : a ≤ a') (hb : b' ≤ b) : Up k xs a' b' := fun i j h1 h2 h3 => h i j (by omega) h2 (by omega)
theorem Up.le (h : Up k xs a b) {i j : Nat} (h1 : a ≤ i) (h2 : i ≤ j) (h3 : j < b) : ky k xs i ≤ ky k xs j := by
  by_cases e : i = j
  · subst e; exact Int.le_refl _
  · exact h i j h1 (by omega) h3
theorem Up.out {c d : Nat} (h : Up k xs c d) (r : RP a b xs ys) (hd : d ≤ a ∨ b ≤ c) : Up k ys c d := fun i j h1 h2 h3 => by
  unfold ky
  rw [r.out i (by omega), r.out j (by omega)]
  exact h i j h1 h2 h3
/-- one place is out of order -/
def UpX (k : Nat → Int) (xs : List Nat) (a i j : Nat) : Prop := ∀ p q, a ≤ p → p < q → q ≤ i → q ≠ j → ky k xs p ≤ ky k xs q
theorem UpX.start {i : Nat} (h : Up k xs a i) : UpX k xs a i i := fun p q h1 h2 h3 h4 => h p q h1 h2 (by omega)
theorem UpX.done {i j : Nat} (h : UpX k xs a i j) (hj : j ≤ i) (haj : a ≤ j) (hs : j = a ∨ ky k xs (j - 1) ≤ ky k xs j) : Up k xs a (i + 1) := by
  intro p q h1 h2 h3
  by_cases e : q = j
  · subst e
    rcases hs with hs | hs
    · omega
    · by_cases e2 : p = q - 1
      · rw [e2]; exact hs
      · exact Int.le_trans (h p (q - 1) h1 (by omega) (by omega) (by omega)) hs
  · exact h p q h1 h2 (by omega) e
theorem UpX.step {i j : Nat} (h : UpX k xs a i j) (hj : j ≤ i) (haj : a < j) (hi : i < xs.length) (hs : ky k xs j < ky k xs (j - 1)) : UpX k (swp xs j (j - 1)) a i (j - 1) := by
  have hg : ∀ t, ky k (swp xs j (j - 1)) t = if t = j - 1 then ky k xs j else if t = j then ky k xs (j - 1) else ky k xs t := fun t => by
    unfold ky
    rw [swp_gt (by omega) (by omega)]
    split
    · rfl
    · split <;> rfl
  intro p q h1 h2 h3 h4
  rw [hg, hg, if_neg h4]
  by_cases e : q = j
  · rw [if_pos e]
    by_cases e2 : p = j - 1
    · rw [if_pos e2]; exact Int.le_of_lt hs
    · rw [if_neg e2, if_neg (by omega)]
      exact h p (j - 1) h1 (by omega) (by omega) (by omega)
  · rw [if_neg e]
    by_cases e2 : p = j - 1
    · rw [if_pos e2]; exact h j q (by omega) (by omega) h3 e
    · rw [if_neg e2]
      by_cases e3 : p = j
      · rw [if_pos e3]; exact h (j - 1) q (by omega) (by omega) h3 e
      · rw [if_neg e3]; exact h p q h1 h2 h3 e
/-- exchanged ranges, k of n places done -/
def SwR (xs ys : List Nat) (a b n : Nat) : Prop := ∀ t, gt ys t = if a ≤ t ∧ t < a + n then gt xs (t - a + b) else if b ≤ t ∧ t < b + n then gt xs (t - b + a) else gt xs t
theorem SwR.zero (xs : List Nat) (a b : Nat) : SwR xs xs a b 0 := fun t => by rw [if_neg (by omega), if_neg (by omega)]
theorem SwR.succ {n : Nat} (h : SwR xs ys a b n) (hab : a + n < b) (hb : b + n < ys.length) : SwR xs (swp ys (a + n) (b + n)) a b (n + 1) := by
  intro t
  rw [swp_gt (by omega) (by omega), h (a + n), h (b + n), h t]
  rw [if_neg (show ¬ (a ≤ a + n ∧ a + n < a + n) by omega), if_neg (show ¬ (b ≤ a + n ∧ a + n < b + n) by omega), if_neg (show ¬ (a ≤ b + n ∧ b + n < a + n) by omega), if_neg (show ¬ (b ≤ b + n ∧ b + n < b + n) by omega)]
  by_cases e1 : t = b + n
  · rw [if_pos e1, if_neg (by omega), if_pos (by omega)]; congr 1; omega
  · rw [if_neg e1]
    by_cases e2 : t = a + n
    · rw [if_pos e2, if_pos (by omega)]; congr 1; omega
    · rw [if_neg e2]
      by_cases e3 : a ≤ t ∧ t < a + n
      · rw [if_pos e3, if_pos (by omega)]
      · by_cases e4 : b ≤ t ∧ t < b + n
        · rw [if_neg e3, if_pos e4, if_neg (by omega), if_pos (by omega)]
        · rw [if_neg e3, if_neg e4, if_neg (by omega), if_neg (by omega)]
/-- blocks exchanged -/
def Rot (xs ys : List Nat) (p m q : Nat) : Prop := ∀ t, gt ys t = if p ≤ t ∧ t < q then (if t < p + (q - m) then gt xs (t - p + m) else gt xs (t - (q - m))) else gt xs t
/-- what is left of an exchange of blocks: ys is to become zs, where zs is xs with its blocks exchanged -/
def RotL (xs ys : List Nat) (a m b i j : Nat) : Prop := ∀ zs, Rot ys zs (m - i) m (m + j) → Rot xs zs a m b
theorem RotL.start (xs : List Nat) {m : Nat} (h1 : a ≤ m) (h2 : m ≤ b) : RotL xs xs a m b (m - a) (b - m) := fun zs h => by
  rw [show m - (m - a) = a by omega, show m + (b - m) = b by omega] at h; exact h
theorem RotL.left {m i j : Nat} (h : RotL xs ys a m b i j) (hji : j < i) (hj : 0 < j) (him : i ≤ m) (s : SwR ys zs (m - i) m j) : RotL xs zs a m b (i - j) j := by
  intro us hu
  refine h us fun t => ?_
  rw [hu t]
  by_cases c1 : m - (i - j) ≤ t ∧ t < m + j
  · rw [if_pos c1, if_pos (show m - i ≤ t ∧ t < m + j by omega), if_neg (show ¬ t < m - i + (m + j - m) by omega)]
    by_cases c2 : t < m - (i - j) + (m + j - m)
    · rw [if_pos c2, s, if_neg (by omega), if_pos (by omega)]; congr 1; omega
    · rw [if_neg c2, s, if_neg (by omega), if_neg (by omega)]
  · rw [if_neg c1, s]
    by_cases c3 : m - i ≤ t ∧ t < m + j
    · rw [if_pos c3, if_pos (show t < m - i + (m + j - m) by omega), if_pos (by omega)]
    · rw [if_neg c3, if_neg (by omega), if_neg (by omega)]
theorem RotL.right {m i j : Nat} (h : RotL xs ys a m b i j) (hij : i < j) (hi : 0 < i) (him : i ≤ m) (s : SwR ys zs (m - i) (m + j - i) i) : RotL xs zs a m b i (j - i) := by
  intro us hu
  refine h us fun t => ?_
  rw [hu t]
  by_cases c1 : m - i ≤ t ∧ t < m + (j - i)
  · rw [if_pos c1, if_pos (show m - i ≤ t ∧ t < m + j by omega)]
    by_cases c2 : t < m - i + (m + (j - i) - m)
    · rw [if_pos c2, if_pos (show t < m - i + (m + j - m) by omega), s]
      by_cases c4 : t - (m - i) + m < m + j - i
      · rw [if_neg (by omega), if_neg (by omega)]
      · exfalso; omega
    · rw [if_neg c2, s, if_pos (by omega), if_pos (show t < m - i + (m + j - m) by omega)]; congr 1; omega
  · rw [if_neg c1, s]
    by_cases c3 : m - i ≤ t ∧ t < m + j
    · rw [if_pos c3, if_neg (show ¬ t < m - i + (m + j - m) by omega), if_neg (by omega), if_pos (by omega)]; congr 1; omega
    · rw [if_neg c3, if_neg (by omega), if_neg (by omega)]
theorem RotL.done {m i : Nat} (h : RotL xs ys a m b i i) (hi : 0 < i) (him : i ≤ m) (s : SwR ys zs (m - i) m i) : Rot xs zs a m b := by
  refine h zs fun t => ?_
  rw [s t]
  by_cases c1 : m - i ≤ t ∧ t < m + i
  · rw [if_pos c1]
    by_cases c2 : t < m - i + (m + i - m)
    · rw [if_pos c2, if_pos (by omega)]
    · rw [if_neg c2, if_neg (by omega), if_pos (by omega)]; congr 1; omega
  · rw [if_neg c1, if_neg (by omega), if_neg (by omega)]
theorem Rot.id {m : Nat} (h : a = m ∨ m = b) : Rot xs xs a m b := by
  intro t
  by_cases c : a ≤ t ∧ t < b
  · rw [if_pos c]
    rcases h with h | h
    · subst h; rw [if_pos (by omega)]; congr 1; omega
    · subst h; rw [if_neg (by omega)]; congr 1; omega
  · rw [if_neg c]
/-- the place where two sorted halves are cut -/
structure Cut2 (k : Nat → Int) (xs : List Nat) (lo hi n s : Nat) : Prop where
  l : lo ≤ s
  h : s ≤ hi
  low : ∀ c, lo ≤ c → c < s → ky k xs c ≤ ky k xs (n - 1 - c)
  up : ∀ c, s ≤ c → c < hi → ky k xs (n - 1 - c) < ky k xs c
theorem sym_cross {m mid s lo hi : Nat} (hm : mid = (a + b) / 2) (ham : a < m) (hmb : m < b) (hu : Up k xs a m) (hv : Up k xs m b) (hlo : lo = if mid < m then mid + m - b else a) (hhi : hi = if mid < m then mid else m) (c : Cut2 k xs lo hi (mid + m) s) (r : Rot xs ys s m (mid + m - s)) :
    (s ≤ mid ∧ a ≤ s ∧ s ≤ m ∧ m ≤ mid + m - s ∧ mid + m - s ≤ b) ∧ Up k ys a s ∧ Up k ys s mid ∧ Up k ys mid (mid + m - s) ∧ Up k ys (mid + m - s) b ∧ ∀ p q, a ≤ p → p < mid → mid ≤ q → q < b → ky k ys p ≤ ky k ys q := by
  have c1 := c.l
  have c2 := c.h
  have hb : s ≤ mid ∧ a ≤ s ∧ s ≤ m ∧ m ≤ mid + m - s ∧ mid + m - s ≤ b := by split at hlo <;> split at hhi <;> omega
  have g1 : ∀ t, t < s → ky k ys t = ky k xs t := fun t h => by unfold ky; rw [r t, if_neg (by omega)]
  have g2 : ∀ t, s ≤ t → t < mid → ky k ys t = ky k xs (t - s + m) := fun t h h' => by unfold ky; rw [r t, if_pos (by omega), if_pos (by omega)]
  have g3 : ∀ t, mid ≤ t → t < mid + m - s → ky k ys t = ky k xs (t + s - mid) := fun t h h' => by
    unfold ky; rw [r t, if_pos (by omega), if_neg (by omega), show t - (mid + m - s - m) = t + s - mid by omega]
  have g4 : ∀ t, mid + m - s ≤ t → ky k ys t = ky k xs t := fun t h => by unfold ky; rw [r t, if_neg (by omega)]
  refine ⟨hb, fun i j h1 h2 h3 => ?_, fun i j h1 h2 h3 => ?_, fun i j h1 h2 h3 => ?_, fun i j h1 h2 h3 => ?_, fun p q p1 p2 q1 q2 => ?_⟩
  · rw [g1 i (by omega), g1 j h3]; exact hu i j h1 h2 (by omega)
  · rw [g2 i h1 (by omega), g2 j (by omega) h3]; exact hv _ _ (by omega) (by omega) (by omega)
  · rw [g3 i h1 (by omega), g3 j (by omega) h3]; exact hu _ _ (by omega) (by omega) (by omega)
  · rw [g4 i h1, g4 j (by omega)]; exact hv i j (by omega) h2 h3
  · by_cases ps : p < s
    · rw [g1 p ps]
      by_cases qs : q < mid + m - s
      · rw [g3 q q1 qs]; exact hu.le p1 (by omega) (by omega)
      · rw [g4 q (by omega)]
        have hl : lo < s := by split at hlo <;> split at hhi <;> omega
        have := c.low (s - 1) (by omega) (by omega)
        exact Int.le_trans (hu.le p1 (show p ≤ s - 1 by omega) (by omega)) (Int.le_trans this (hv.le (by omega) (by omega) q2))
    · rw [g2 p (by omega) p2]
      by_cases qs : q < mid + m - s
      · rw [g3 q q1 qs]
        have hl : s < hi := by split at hlo <;> split at hhi <;> omega
        have := c.up s (Nat.le_refl _) hl
        exact Int.le_trans (hv.le (by omega) (show p - s + m ≤ mid + m - 1 - s by omega) (by omega)) (Int.le_trans (Int.le_of_lt this) (hu.le (by omega) (by omega) (by omega)))
      · rw [g4 q (by omega)]; exact hv.le (by omega) (by omega) q2
theorem sym_join {mid : Nat} {us : List Nat} (hx : ∀ p q, a ≤ p → p < mid → mid ≤ q → q < b → ky k xs p ≤ ky k xs q) (r1 : RP a mid xs ys) (r2 : RP mid b ys zs) (u1 : Up k ys a mid) (u2 : Up k zs mid b) : Up k zs a b := by
  intro i j h1 h2 h3
  by_cases ci : i < mid
  · have ei : ky k zs i = ky k ys i := by unfold ky; rw [r2.out i (by omega)]
    by_cases cj : j < mid
    · have ej : ky k zs j = ky k ys j := by unfold ky; rw [r2.out j (by omega)]
      rw [ei, ej]; exact u1 i j h1 h2 cj
    · obtain ⟨q, q1, q2, eq⟩ := r2.src j (by omega) h3
      obtain ⟨p, p1, p2, ep⟩ := r1.src i h1 ci
      have e2 : ky k zs j = ky k xs q := by unfold ky; rw [eq, r1.out q (by omega)]
      have e1 : ky k ys i = ky k xs p := by unfold ky; rw [ep]
      rw [ei, e1, e2]; exact hx p q p1 p2 q1 q2
  · exact u2 i j (by omega) h2 h3
/-- sorted by blocks -/
def Blk (k : Nat → Int) (xs : List Nat) (s lo n : Nat) : Prop := ∀ i j, lo ≤ i → i < j → j < n → i / s = j / s → ky k xs i ≤ ky k xs j
end
end Go.Proofs.YtjbglifmppilfaaDoor
namespace Go.Proofs.YtjbglifmppilfaaDoor
open Go.ChangeShapes Go.WideShapes Go.ChangeAt Go.RowKit
set_option linter.unusedVariables false
set_option linter.unusedSimpArgs false
attribute [local go_sem] Og.Opt Og.OpY

theorem AtL_keep {w w' : World} {g o : Nat} {cs : List Value} (h : AtL w g o cs) (hh : w'.heap[g]? = w.heap[g]?) : AtL w' g o cs := fun k u hk => (World.cell?_of_block (a := ⟨g, o + k, none⟩) hh).trans (h k u hk)
def nC (xs : List Nat) : List Value := xs.map fun n : Nat => Value.int .i64 (n : Int)
theorem nC_len (xs : List Nat) : (nC xs).length = xs.length := by simp [nC]
def dsOk (ds : List Int) : Prop := ds.length = 128 ∧ ∀ d ∈ ds, 0 ≤ d ∧ d ≤ 1073741824
def kd (ds : List Int) (n : Nat) : Int := ds.getD n 0
theorem dsOk.get {ds : List Int} (h : dsOk ds) {a : Nat} (ha : a < 128) : (dC ds)[a]? = some (.int .i64 (kd ds a)) ∧ 0 ≤ kd ds a ∧ kd ds a ≤ 1073741824 := by
  have hl : a < ds.length := by rw [h.1]; exact ha
  have e : ds[a]? = some ds[a] := List.getElem?_eq_getElem hl
  have ek : kd ds a = ds[a] := by unfold kd; rw [List.getD_eq_getElem?_getD, e]; rfl
  refine ⟨?_, ?_⟩
  · rw [dC, List.getElem?_map, e, ek]; rfl
  · rw [ek]; exact h.2 _ (List.getElem_mem hl)
/-- what sorting works on: the comparison's box B with the distances at gd, and the row at g -/
structure SW (B gd od cd : Nat) (ds : List Int) (g : Nat) (tl : List Value) (w : World) (xs : List Nat) : Prop where
  box : w.cell? ⟨B, 1, none⟩ = some (.slice (some ⟨gd, od, none⟩) 128 cd)
  dist : AtL w gd od (dC ds)
  row : w.heap[g]? = some (.cells (nC xs ++ tl).toArray 3 (0, 0))
  lt : ∀ x ∈ xs, x < 128
  nB : B ≠ g
  nD : gd ≠ g
  ok : dsOk ds
theorem SW.below {B gd od cd g : Nat} {ds : List Int} {tl : List Value} {w w' : World} {xs : List Nat} (h : SW B gd od cd ds g tl w xs) (hb : Below w.heap.size w w') : SW B gd od cd ds g tl w' xs :=
  ⟨bcell hb h.box, h.dist.below hb, heap_keep hb h.row, h.lt, h.nB, h.nD, h.ok⟩
theorem SW.val {B gd od cd g : Nat} {ds : List Int} {tl : List Value} {w : World} {xs : List Nat} (h : SW B gd od cd ds g tl w xs) {i : Nat} (hi : i < xs.length) : w.cell? ⟨g, i, none⟩ = some (.int .i64 (gt xs i : Nat)) ∧ gt xs i < 128 := by
  refine ⟨?_, h.lt _ (List.mem_of_getElem? (gt_some hi))⟩
  rw [cell_of_row w g i _ _ _ h.row, List.getElem?_toArray, List.getElem?_append_left (by rw [nC_len]; exact hi), nC, List.getElem?_map, gt_some hi]
  rfl
set_option maxRecDepth 100000 in
set_option maxHeartbeats 4000000 in
theorem cmp_ok (B gd od cd : Nat) (ds : List Int) (a b : Nat) (w : World) (hB : w.cell? ⟨B, 1, none⟩ = some (.slice (some ⟨gd, od, none⟩) 128 cd)) (hD : AtL w gd od (dC ds)) (ok : dsOk ds) (ha : a < 128) (hb : b < 128) :
    Calls Tryd.prog 33 #[.int .i64 a, .int .i64 b, .pointer (some ⟨B, 0, none⟩)] w fun e w' => e = .returned (.int .i64 (kd ds a - kd ds b)) ∧ Below w.heap.size w w' := by
  obtain ⟨qa, a1, a2⟩ := ok.get ha
  obtain ⟨qb, b1, b2⟩ := ok.get hb
  have ca := hD _ _ qa
  have cb := hD _ _ qb
  have HW := Lib.hid (show IntKind.i64.wrap (kd ds a - kd ds b) = kd ds a - kd ds b by rw [IntKind.wrap_i64]; omega)
  generalize kd ds a = da at *
  generalize kd ds b = db at *
  have HC : ∀ w2, Below w.heap.size w w2 → w2.cell? ⟨B, 1, none⟩ = some (.slice (some ⟨gd, od, none⟩) 128 cd) ∧ w2.cell? ⟨gd, od + a, none⟩ = some (.int .i64 da) ∧ w2.cell? ⟨gd, od + b, none⟩ = some (.int .i64 db) := fun w2 h => ⟨bcell h hB, bcell h ca, bcell h cb⟩
  have ha0 : (0 : Int) ≤ (a : Int) := by omega
  have ha1 : (a : Int) < 128 := by omega
  have hb0 : (0 : Int) ≤ (b : Int) := by omega
  have hb1 : (b : Int) < 128 := by omega
  have wr := HW.out
  clear qa qb ca cb hB hD ok ha hb a1 a2 b1 b2
  go_enter Tryd.func33, Tryd.ntmps33
  go_wp2_with fail
  refine Og.walk_lit [[],[0],[],[1,2,0],[3,1,2,0],[],[5],[],[6,7,5],[8,6,7,5],[4,9,3,1,2,0,8,6,7,5],[10,0,1,2,3,4,5,6,7,8,9]] (fun w2 => Below w.heap.size w w2) (fun w1 w2 => Below w1.heap.size w1 w2) (by kernel_rfl) (by kernel_rfl) (bdrew) ?_
  repeat (first | (refine Og.step_pure (fun _ => Below.refl _ _) ?_; apply Exists.intro; refine And.intro ?_ ?_; focus (intro vs w2 hC hk; have hm := HC w2 hC; revert hk; simp only [Og.KS, Og.K0, Og.Is, List.getD_cons_zero, List.getD_cons_succ, List.getD_nil, List.contains_cons, List.contains_nil, Nat.reduceAdd, Nat.reduceBEq, Bool.or_false, Bool.false_or, Bool.or_true, Bool.true_or, Bool.false_eq_true, false_implies, true_implies, true_and, and_true, forall_const]; intros; go_simp; rfl)))
  intro vs w2 hC hk
  have hm := HC w2 hC
  simp only [Og.KS, Og.K0, Og.Is, List.getD_cons_zero, List.getD_cons_succ, List.getD_nil, List.contains_cons, List.contains_nil, Nat.reduceAdd, Nat.reduceBEq, Bool.or_false, Bool.false_or, Bool.or_true, Bool.true_or, Bool.false_eq_true, false_implies, true_implies, true_and, and_true, forall_const] at hk
  simp only [hk, Act.put, List.setIfInBounds_toArray, List.set_cons_zero, List.set_cons_succ]
  clear hk
  clear hm
  go_wp2_with fail
  go_ret
  exact ⟨rfl, hC⟩

end Go.Proofs.YtjbglifmppilfaaDoor
namespace Go.Proofs.YtjbglifmppilfaaDoor
open Go.ChangeShapes Go.WideShapes Go.ChangeAt Go.RowKit
set_option linter.unusedVariables false
set_option linter.unusedSimpArgs false
attribute [local go_sem] Og.Opt Og.OpY

theorem nC_set (xs : List Nat) (tl : List Value) (k v : Nat) (h : k < xs.length) : (nC xs ++ tl).set k (.int .i64 (v : Int)) = nC (xs.set k v) ++ tl := by
  rw [List.set_append_left _ _ (by rw [nC_len]; exact h)]
  congr 1
  simp [nC, List.map_set]
theorem SW.grown {B gd od cd g : Nat} {ds : List Int} {tl : List Value} {w w' : World} {xs ys : List Nat} (h : SW B gd od cd ds g tl w xs) (hg : w.grownBy w' (some g)) (hr : w'.heap[g]? = some (.cells (nC ys ++ tl).toArray 3 (0, 0))) (hl : ∀ y ∈ ys, y < 128) : SW B gd od cd ds g tl w' ys := by
  refine ⟨hg.cell h.box (by simp; exact h.nB), ?_, hr, hl, h.nB, h.nD, h.ok⟩
  have hd := h.dist
  obtain ⟨d, hd0⟩ : ∃ d, (dC ds)[0]? = some d := ⟨_, (h.ok.get (show 0 < 128 by decide)).1⟩
  exact AtL_keep hd (hg.block gd (World.block_lt_of_cell? w _ (hd 0 d hd0)) (by simp; exact h.nD))
theorem SW.swap {B gd od cd g : Nat} {ds : List Int} {tl : List Value} {w : World} {xs : List Nat} (h : SW B gd od cd ds g tl w xs) {i j : Nat} (hi : i < xs.length) (hj : j < xs.length) :
    ∃ w1 w2, (storeVar 3 ⟨g, i, none⟩ (.int .i64 (gt xs j : Nat))).run Tryd.prog w.drew = .ok () w1 ∧ (storeVar 3 ⟨g, j, none⟩ (.int .i64 (gt xs i : Nat))).run Tryd.prog w1 = .ok () w2 ∧ SW B gd od cd ds g tl w2 (swp xs i j) ∧ w.grownBy w2 (some g) := by
  have hg0 : w.drew.heap[g]? = some (.cells (nC xs ++ tl).toArray 3 (0, 0)) := h.row
  obtain ⟨w1, r1, k1, s1, n1, b1⟩ := run_store1 (k := i) (ty := 3) (.int .i64 (gt xs j : Nat)) rfl rfl size3 hg0 (by rw [List.length_append, nC_len]; omega)
  rw [nC_set _ _ _ _ hi] at k1
  obtain ⟨w2, r2, k2, s2, n2, b2⟩ := run_store1 (k := j) (ty := 3) (.int .i64 (gt xs i : Nat)) rfl rfl size3 k1 (by rw [List.length_append, nC_len, List.length_set]; omega)
  rw [nC_set _ _ _ _ (by simpa using hj)] at k2
  have c1 := b1 0 (Nat.zero_le _)
  have c2 := b2 0 (Nat.zero_le _)
  have G : w.grownBy w2 (some g) := ⟨c2.os.trans c1.os, c2.tape.trans c1.tape, c2.output.trans c1.output, Nat.le_trans c1.size c2.size, fun k hk hne => (n2 k (fun e => hne (by rw [e]))).trans (n1 k (fun e => hne (by rw [e])))⟩
  exact ⟨w1, w2, r1, r2, h.grown G k2 (fun y hy => h.lt y ((swp_perm hi hj).mem_iff.1 hy)), G⟩
theorem grown_refl (w : World) (r : Option Nat) : w.grownBy w r := ⟨rfl, rfl, rfl, Nat.le_refl _, fun _ _ _ => rfl⟩
theorem grown_below'' {w w' : World} (hb : Below w.heap.size w w') (r : Option Nat) : w.grownBy w' r := ⟨hb.os, hb.tape, hb.output, hb.size, fun k hk _ => hb.block k hk⟩
theorem gtr {a b c : World} {r : Option Nat} (h : a.grownBy b r) (k : b.grownBy c r) : a.grownBy c r := ⟨k.os.trans h.os, k.tape.trans h.tape, k.output.trans h.output, Nat.le_trans h.size k.size, fun i hi hr => (k.block i (Nat.lt_of_lt_of_le hi h.size) hr).trans (h.block i hi hr)⟩
/-- the comparison as a value -/
abbrev cmpV (B : Nat) : Value := .func (.func 33) #[] #[.pointer (some ⟨B, 0, none⟩)]
set_option maxRecDepth 100000 in
set_option maxHeartbeats 4000000 in
theorem swr_ok (B gd od cd : Nat) (ds : List Int) (g : Nat) (tl : List Value) (c a b n : Nat) (xs : List Nat) (w : World) (h : SW B gd od cd ds g tl w xs) (hab : a + n ≤ b) (hb : b + n ≤ xs.length) (hl : xs.length ≤ 1000) :
    Calls Tryd.prog 88 #[.slice (some ⟨g, 0, none⟩) xs.length c, .int .i64 a, .int .i64 b, .int .i64 n, .func (.func 33) #[] #[.pointer (some ⟨B, 0, none⟩)]] w fun e w' => e = .returned (.tuple #[]) ∧ ∃ ys, SW B gd od cd ds g tl w' ys ∧ SwR xs ys a b n ∧ RP a (b + n) xs ys ∧ w.grownBy w' (some g) := by
  obtain ⟨l, hn⟩ : ∃ l, l = xs.length := ⟨_, rfl⟩
  rw [← hn] at hb hl ⊢
  have HL := Lib.hid hn
  have H := Lib.hid h
  have HAB := Lib.hid (And.intro hab (And.intro hb hl))
  clear hn h hab hb hl
  go_enter Tryd.func88, Tryd.ntmps88
  go_wp2_with fail
  go_loopw [10] (fun i wr => ∃ (k : Nat) (cur : List Nat), k ≤ n ∧ i = .int .i64 k ∧ Hid (SW B gd od cd ds g tl wr cur ∧ SwR xs cur a b k ∧ RP a (b + n) xs cur ∧ w.grownBy wr (some g))) (fun i _ => n - (intOf i).toNat)
  case atStart => exact ⟨0, xs, Nat.zero_le _, rfl, Lib.hid ⟨H.out, SwR.zero _ _ _, RP.refl _ _ _, grown_refl _ _⟩⟩
  case round =>
    obtain ⟨k, cur, hk, rfl, hT⟩ := hrel
    by_cases hlt : k < n
    · have hkn : (k : Int) < (n : Int) := by omega
      obtain ⟨h1, h2, h3⟩ := HAB.out
      have hlen : cur.length = l := by rw [hT.out.2.2.1.len, HL.out]
      obtain ⟨p, hp⟩ : ∃ p : Nat, p = a + k := ⟨_, rfl⟩
      obtain ⟨q, hq⟩ : ∃ q : Nat, q = b + k := ⟨_, rfl⟩
      have wp : IntKind.i64.wrap ((a : Int) + (k : Int)) = (p : Int) := by rw [IntKind.wrap_i64]; omega
      have wq : IntKind.i64.wrap ((b : Int) + (k : Int)) = (q : Int) := by rw [IntKind.wrap_i64]; omega
      have wk : IntKind.i64.wrap ((k : Int) + 1) = (k : Int) + 1 := by rw [IntKind.wrap_i64]; omega
      have p0 : (0 : Int) ≤ (p : Int) := by omega
      have p1 : (p : Int) < (l : Int) := by omega
      have q0 : (0 : Int) ≤ (q : Int) := by omega
      have q1 : (q : Int) < (l : Int) := by omega
      obtain ⟨w1, w2, r1, r2, S2, G2⟩ := hT.out.1.swap (i := p) (j := q) (by omega) (by omega)
      have R1 := Lib.hid r1
      have R2 := Lib.hid r2
      have m1 : wr.drew.cell? ⟨g, p, none⟩ = some (.int .i64 (gt cur p : Nat)) := (hT.out.1.val (by omega)).1
      have m2 : wr.drew.cell? ⟨g, q, none⟩ = some (.int .i64 (gt cur q : Nat)) := (hT.out.1.val (by omega)).1
      have FIN : Hid (SW B gd od cd ds g tl w2 (swp cur p q) ∧ SwR xs (swp cur p q) a b (k + 1) ∧ RP a (b + n) xs (swp cur p q) ∧ w.grownBy w2 (some g)) := Lib.hid ⟨S2, by rw [hp, hq]; exact hT.out.2.1.succ (by omega) (by omega), hT.out.2.2.1.trans (RP.swp (by omega) (by omega) (by omega) (by omega) (by omega)), gtr hT.out.2.2.2 G2⟩
      clear r1 r2 S2 G2 hT hp hq h1 h2 h3 hlen hk
      generalize gt cur p = vp at *
      generalize gt cur q = vq at *
      go_wp2_with fail
      refine Og.Joint2.walk_lit 22 [[],[],[],[1,2],[],[],[],[5,6],[],[],[],[9,10],[8,11,9,10],[12,8,11,9,10],[],[],[],[15,16],[14,17,15,16],[18,14,17,15,16],[0,3,1,2,8,9,10,11,12,13,19,18,14,17,15,16],[20,13,0,1,2,3,8,9,10,11,12,19,18,14,17,15,16],[4,7,0,1,2,3,5,6,8,9,10,11,12,13,14,15,16,17,18,19,20,21],[22,19,21,0,1,2,3,4,5,6,7,8,9,10,11,12,13,14,15,16,17,18,20]] (CX wr.drew w1 21 [13, 19]) (fun _ _ => True) (by kernel_rfl) (by kernel_rfl) (by kernel_rfl) (fun vs => CX.ini) ?_
      simp only [List.take_succ_cons, List.take_zero, List.drop_succ_cons, List.drop_zero]
      iterate 13 (refine Og.Joint2.step_pureP (fun p vs v w h => h.other (by decide)) (fun _ => trivial) ?_; apply Exists.intro; refine And.intro ?_ ?_; focus (intro p vs w2 hp hC hk; refine Og.OptB.mk ?_; revert hk; simp only [Og.KS, Og.K0, Og.Is, List.getD_cons_zero, List.getD_cons_succ, List.getD_nil, List.contains_cons, List.contains_nil, Nat.reduceAdd, Nat.reduceBEq, Bool.or_false, Bool.false_or, Bool.or_true, Bool.true_or, Bool.false_eq_true, false_implies, true_implies, true_and, and_true, forall_const]; intros; go_simp; rfl))
      refine Og.Joint2.step_pureP (fun p vs v w h => h.other (by decide)) (fun _ => trivial) ?_; apply Exists.intro; refine And.intro ?_ ?_; focus (intro p vs w2 hp hC hk; obtain rfl := hC.at_ (by decide) hp; refine Og.OptB.mk ?_; revert hk; simp only [Og.KS, Og.K0, Og.Is, List.getD_cons_zero, List.getD_cons_succ, List.getD_nil, List.contains_cons, List.contains_nil, Nat.reduceAdd, Nat.reduceBEq, Bool.or_false, Bool.false_or, Bool.or_true, Bool.true_or, Bool.false_eq_true, false_implies, true_implies, true_and, and_true, forall_const]; intros; go_simp; rfl)
      iterate 5 (refine Og.Joint2.step_pureP (fun p vs v w h => h.other (by decide)) (fun _ => trivial) ?_; apply Exists.intro; refine And.intro ?_ ?_; focus (intro p vs w2 hp hC hk; refine Og.OptB.mk ?_; revert hk; simp only [Og.KS, Og.K0, Og.Is, List.getD_cons_zero, List.getD_cons_succ, List.getD_nil, List.contains_cons, List.contains_nil, Nat.reduceAdd, Nat.reduceBEq, Bool.or_false, Bool.false_or, Bool.or_true, Bool.true_or, Bool.false_eq_true, false_implies, true_implies, true_and, and_true, forall_const]; intros; go_simp; rfl))
      refine Og.Joint2.step_pureP (fun p vs v w h => h.other (by decide)) (fun _ => trivial) ?_; apply Exists.intro; refine And.intro ?_ ?_; focus (intro p vs w2 hp hC hk; obtain rfl := hC.at_ (by decide) hp; refine Og.OptB.mk ?_; revert hk; simp only [Og.KS, Og.K0, Og.Is, List.getD_cons_zero, List.getD_cons_succ, List.getD_nil, List.contains_cons, List.contains_nil, Nat.reduceAdd, Nat.reduceBEq, Bool.or_false, Bool.false_or, Bool.or_true, Bool.true_or, Bool.false_eq_true, false_implies, true_implies, true_and, and_true, forall_const]; intros; go_simp; rfl)
      refine Og.Joint2.step_pureP (fun p vs v w h => h.other (by decide)) (fun _ => trivial) ?_; apply Exists.intro; refine And.intro ?_ ?_; focus (intro p vs w2 hp hC hk; refine Og.OptB.mk ?_; revert hk; simp only [Og.KS, Og.K0, Og.Is, List.getD_cons_zero, List.getD_cons_succ, List.getD_nil, List.contains_cons, List.contains_nil, Nat.reduceAdd, Nat.reduceBEq, Bool.or_false, Bool.false_or, Bool.or_true, Bool.true_or, Bool.false_eq_true, false_implies, true_implies, true_and, and_true, forall_const]; intros; go_simp; rfl)
      refine Og.Joint2.step_any (fun _ _ => True) (fun _ _ _ _ _ => trivial) ?_ ?_; focus (intro p vs w2 hp hC hk; obtain rfl := hC.now hp.1; have hdn : ∀ j ∈ [13, 19], p j = true := (by intro j hj; exact hp.2 j (by revert hj; revert j; decide)); revert hk; simp only [Og.KS, Og.K0, Og.Is, List.getD_cons_zero, List.getD_cons_succ, List.getD_nil, List.contains_cons, List.contains_nil, Nat.reduceAdd, Nat.reduceBEq, Bool.or_false, Bool.false_or, Bool.or_true, Bool.true_or, Bool.false_eq_true, false_implies, true_implies, true_and, and_true, forall_const]; intros; refine optB_storeR (by go_simp) rfl (by go_simp) (by go_simp) R1.out (CX.done hdn))
      intro p vs w5 hp hC hk
      obtain rfl := hC.fin (hp 21 (by decide))
      simp only [Og.KS, Og.K0, Og.Is, List.getD_cons_zero, List.getD_cons_succ, List.getD_nil, List.contains_cons, List.contains_nil, Nat.reduceAdd, Nat.reduceBEq, Bool.or_false, Bool.false_or, Bool.or_true, Bool.true_or, Bool.false_eq_true, false_implies, true_implies, true_and, and_true, forall_const] at hk
      simp only [hk, Act.put, List.setIfInBounds_toArray, List.set_cons_zero, List.set_cons_succ]
      clear hk hp hC
      go_wp2_with (refine wpList_storeR (ty := 3) (x := .tmp 37) (y := .tmp 35) rfl rfl rfl (by go_simp) (by go_simp) R2.out ?_)
      go_wp2_with fail
      go_roundw
      case rel => exact ⟨k + 1, _, by omega, by go_num, FIN⟩
      case measure => simp [intOf]; omega
    · have hkn : ¬ (k : Int) < (n : Int) := by omega
      have e : k = n := by omega
      subst e
      go_wp2_with fail
      go_end0
      exact ⟨rfl, _, hT.out⟩

end Go.Proofs.YtjbglifmppilfaaDoor
namespace Go.Proofs.YtjbglifmppilfaaDoor
open Go.ChangeShapes Go.WideShapes Go.ChangeAt Go.RowKit
set_option linter.unusedVariables false
set_option linter.unusedSimpArgs false
attribute [local go_sem] Og.Opt Og.OpY

set_option maxRecDepth 100000 in
set_option maxHeartbeats 4000000 in
theorem ins_ok (B gd od cd : Nat) (ds : List Int) (g : Nat) (tl : List Value) (c a b : Nat) (xs : List Nat) (w : World) (h : SW B gd od cd ds g tl w xs) (hab : a ≤ b) (hb : b ≤ xs.length) (hl : xs.length ≤ 1000) :
    Calls Tryd.prog 65 #[.slice (some ⟨g, 0, none⟩) xs.length c, .int .i64 a, .int .i64 b, .func (.func 33) #[] #[.pointer (some ⟨B, 0, none⟩)]] w fun e w' => e = .returned (.tuple #[]) ∧ ∃ ys, SW B gd od cd ds g tl w' ys ∧ RP a b xs ys ∧ Up (kd ds) ys a b ∧ w.grownBy w' (some g) := by
  obtain ⟨l, hn⟩ : ∃ l, l = xs.length := ⟨_, rfl⟩
  rw [← hn] at hb hl ⊢
  have HL := Lib.hid hn
  have H := Lib.hid h
  have HAB := Lib.hid (And.intro hab (And.intro hb hl))
  have wa : IntKind.i64.wrap ((a : Int) + 1) = (a : Int) + 1 := by rw [IntKind.wrap_i64]; omega
  clear hn h hab hb hl
  go_enter Tryd.func65, Tryd.ntmps65
  go_wp2_with fail
  go_loopw [8] (fun i wr => ∃ (k : Nat) (cur : List Nat), a + 1 ≤ k ∧ (k ≤ b ∨ k = a + 1) ∧ i = .int .i64 k ∧ Hid (SW B gd od cd ds g tl wr cur ∧ RP a b xs cur ∧ Up (kd ds) cur a k ∧ w.grownBy wr (some g))) (fun i _ => b - (intOf i).toNat)
  case atStart => exact ⟨a + 1, xs, Nat.le_refl _, .inr rfl, by go_num, Lib.hid ⟨H.out, RP.refl _ _ _, Up.nil (Nat.le_refl _), grown_refl _ _⟩⟩
  case round =>
    obtain ⟨k, cur, hk, hk2, rfl, hT⟩ := hrel
    by_cases hlt : k < b
    · have hkn : (k : Int) < (b : Int) := by omega
      have wk : IntKind.i64.wrap ((k : Int) + 1) = (k : Int) + 1 := by have := HAB.out; rw [IntKind.wrap_i64]; omega
      have HK := Lib.hid (And.intro hk hlt)
      clear hk hk2 hlt
      go_wp2_with fail
      go_loopw [9] (fun i wr => ∃ (j : Nat) (cur : List Nat), a ≤ j ∧ j ≤ k ∧ i = .int .i64 j ∧ Hid (SW B gd od cd ds g tl wr cur ∧ RP a b xs cur ∧ UpX (kd ds) cur a k j ∧ w.grownBy wr (some g))) (fun i _ => (intOf i).toNat)
      case atStart => exact ⟨k, cur, by have := HK.out; omega, Nat.le_refl _, rfl, Lib.hid ⟨hT.out.1, hT.out.2.1, UpX.start hT.out.2.2.1, hT.out.2.2.2⟩⟩
      case round =>
        clear hT cur
        obtain ⟨j, cur, hj, hjk, rfl, hT⟩ := hrel
        have hlen : cur.length = l := by rw [hT.out.2.1.len, HL.out]
        by_cases hja : a < j
        · have gj : (a : Int) < (j : Int) := by omega
          obtain ⟨q, hq⟩ : ∃ q : Nat, q = j - 1 := ⟨_, rfl⟩
          have wq : IntKind.i64.wrap ((j : Int) - 1) = (q : Int) := by have := HAB.out; have := HK.out; rw [IntKind.wrap_i64]; omega
          have p0 : (0 : Int) ≤ (j : Int) := by omega
          have p1 : (j : Int) < (l : Int) := by have := HAB.out; have := HK.out; omega
          have q0 : (0 : Int) ≤ (q : Int) := by omega
          have q1 : (q : Int) < (l : Int) := by omega
          have v1 := hT.out.1.val (i := j) (by omega)
          have v2 := hT.out.1.val (i := q) (by omega)
          obtain ⟨z, hz⟩ : ∃ z, z = kd ds (gt cur j) - kd ds (gt cur q) := ⟨_, rfl⟩
          have HCMP := Lib.hid (fun w2 (hb : Below wr.heap.size wr w2) => cmp_ok B gd od cd ds (gt cur j) (gt cur q) w2 (bcell hb hT.out.1.box) (hT.out.1.dist.below hb) hT.out.1.ok v1.2 v2.2)
          rw [← hz] at HCMP
          have HZ := Lib.hid hz
          have HC : ∀ w2, Below wr.heap.size wr w2 → w2.cell? ⟨g, j, none⟩ = some (.int .i64 (gt cur j : Nat)) ∧ w2.cell? ⟨g, q, none⟩ = some (.int .i64 (gt cur q : Nat)) := fun w2 hb => ⟨bcell hb v1.1, bcell hb v2.1⟩
          have HJ := Lib.hid (And.intro hj (And.intro hjk (And.intro hja (And.intro hq hlen))))
          clear v1 v2 hj hjk hja hq hlen hz
          by_cases hc : z < 0
          · have HLT := Lib.hid hc
            go_wp2_with fail
            refine Og.walk_lit [[],[],[0,1],[2,0,1],[3,2,0,1],[3,2,0,1],[3,2,0,1],[5,6,3,2,0,1],[7,3,5,6,2,0,1],[3,2,0,1],[3,2,0,1],[10,3,2,0,1],[9,11,3,2,0,1,10],[12,3,9,11,2,0,1,10],[4,8,13,3,2,0,1,7,5,6,12,9,11,10],[14,3,4,8,13,2,0,1,7,5,6,12,9,11,10],[3,15,2,0,1,14,4,8,13,7,5,6,12,9,11,10]] (fun w2 => Below wr.heap.size wr w2) (fun w1 w2 => Below w1.heap.size w1 w2) (by kernel_rfl) (by kernel_rfl) (bdrew) ?_
            repeat (first | (refine Og.step_pure (fun _ => Below.refl _ _) ?_; apply Exists.intro; refine And.intro ?_ ?_; focus (intro vs w2 hC hk; have hm := HC w2 hC; revert hk; simp only [Og.KS, Og.K0, Og.Is, List.getD_cons_zero, List.getD_cons_succ, List.getD_nil, List.contains_cons, List.contains_nil, Nat.reduceAdd, Nat.reduceBEq, Bool.or_false, Bool.false_or, Bool.or_true, Bool.true_or, Bool.false_eq_true, false_implies, true_implies, true_and, and_true, forall_const]; intros; go_simp; rfl)) | (refine Og.step_one ?_; apply Exists.intro; refine And.intro ?_ ?_; focus (intro vs w2 hC hk; revert hk; simp only [Og.KS, Og.K0, Og.Is, List.getD_cons_zero, List.getD_cons_succ, List.getD_nil, List.contains_cons, List.contains_nil, Nat.reduceAdd, Nat.reduceBEq, Bool.or_false, Bool.false_or, Bool.or_true, Bool.true_or, Bool.false_eq_true, false_implies, true_implies, true_and, and_true, forall_const]; intros; go_simp; with_reducible refine (HCMP.out w2 hC).mono ?_; rintro e w3 ⟨rfl, hb⟩; exact Og.RetV.mk ⟨bthen hC hb, hb, rfl⟩)))
            intro vs w2 hC hk
            have hm := HC w2 hC
            simp only [Og.KS, Og.K0, Og.Is, List.getD_cons_zero, List.getD_cons_succ, List.getD_nil, List.contains_cons, List.contains_nil, Nat.reduceAdd, Nat.reduceBEq, Bool.or_false, Bool.false_or, Bool.or_true, Bool.true_or, Bool.false_eq_true, false_implies, true_implies, true_and, and_true, forall_const] at hk
            simp only [hk, Act.put, List.setIfInBounds_toArray, List.set_cons_zero, List.set_cons_succ]
            clear hk
            clear hm HC HCMP
            have T2 := Lib.hid (And.intro (hT.out.1.below hC) (gtr hT.out.2.2.2 (grown_below'' hC _)))
            have T3 := Lib.hid (And.intro hT.out.2.1 hT.out.2.2.1)
            clear hC hT
            have hjn : j < cur.length ∧ q < cur.length ∧ a ≤ j ∧ j < b ∧ a ≤ q ∧ q < b ∧ b ≤ cur.length ∧ j ≤ k ∧ a < j ∧ k < cur.length ∧ q < j := by obtain ⟨h1, h2, h3, h4, h5⟩ := HJ.out; have := HAB.out; have := HK.out; omega
            obtain ⟨wA, wB, r1, r2, S2, G2⟩ := T2.out.1.swap hjn.1 hjn.2.1
            have R1 := Lib.hid r1
            have R2 := Lib.hid r2
            have m1 : w2.drew.cell? ⟨g, j, none⟩ = some (.int .i64 (gt cur j : Nat)) := (T2.out.1.val hjn.1).1
            have m2 : w2.drew.cell? ⟨g, q, none⟩ = some (.int .i64 (gt cur q : Nat)) := (T2.out.1.val hjn.2.1).1
            have FIN : Hid (SW B gd od cd ds g tl wB (swp cur j q) ∧ RP a b xs (swp cur j q) ∧ UpX (kd ds) (swp cur j q) a k q ∧ w.grownBy wB (some g)) := Lib.hid ⟨S2, T3.out.1.trans (RP.swp hjn.2.2.1 hjn.2.2.2.1 hjn.2.2.2.2.1 hjn.2.2.2.2.2.1 hjn.2.2.2.2.2.2.1), by
              have h4 := HJ.out.2.2.2.1
              have hz := HLT.out
              have hz2 := HZ.out
              rw [h4] at hz2 ⊢
              refine UpX.step T3.out.2 (by omega) (by omega) (by omega) ?_
              unfold ky
              omega, gtr T2.out.2 G2⟩
            have HQ := Lib.hid (show a ≤ q ∧ q ≤ k ∧ q < j by omega)
            clear r1 r2 S2 G2 T2 T3 hjn
            go_wp2_with fail
            refine Og.Joint2.walk_lit 16 [[],[],[],[],[3],[],[],[6],[5,7,6],[8,5,7,6],[],[],[10,11],[12,10,11],[0,1,5,6,7,8,9,13,12,10,11],[14,9,0,1,5,6,7,8,13,12,10,11],[2,4,0,1,3,5,6,7,8,9,10,11,12,13,14,15],[16,13,15,0,1,2,3,4,5,6,7,8,9,10,11,12,14]] (CX w2.drew wA 15 [9, 13]) (fun _ _ => True) (by kernel_rfl) (by kernel_rfl) (by kernel_rfl) (fun vs => CX.ini) ?_
            simp only [List.take_succ_cons, List.take_zero, List.drop_succ_cons, List.drop_zero]
            iterate 9 (refine Og.Joint2.step_pureP (fun p vs v w h => h.other (by decide)) (fun _ => trivial) ?_; apply Exists.intro; refine And.intro ?_ ?_; focus (intro p vs w2 hp hC hk; refine Og.OptB.mk ?_; revert hk; simp only [Og.KS, Og.K0, Og.Is, List.getD_cons_zero, List.getD_cons_succ, List.getD_nil, List.contains_cons, List.contains_nil, Nat.reduceAdd, Nat.reduceBEq, Bool.or_false, Bool.false_or, Bool.or_true, Bool.true_or, Bool.false_eq_true, false_implies, true_implies, true_and, and_true, forall_const]; intros; go_simp; rfl))
            refine Og.Joint2.step_pureP (fun p vs v w h => h.other (by decide)) (fun _ => trivial) ?_; apply Exists.intro; refine And.intro ?_ ?_; focus (intro p vs w2 hp hC hk; obtain rfl := hC.at_ (by decide) hp; refine Og.OptB.mk ?_; revert hk; simp only [Og.KS, Og.K0, Og.Is, List.getD_cons_zero, List.getD_cons_succ, List.getD_nil, List.contains_cons, List.contains_nil, Nat.reduceAdd, Nat.reduceBEq, Bool.or_false, Bool.false_or, Bool.or_true, Bool.true_or, Bool.false_eq_true, false_implies, true_implies, true_and, and_true, forall_const]; intros; go_simp; rfl)
            iterate 3 (refine Og.Joint2.step_pureP (fun p vs v w h => h.other (by decide)) (fun _ => trivial) ?_; apply Exists.intro; refine And.intro ?_ ?_; focus (intro p vs w2 hp hC hk; refine Og.OptB.mk ?_; revert hk; simp only [Og.KS, Og.K0, Og.Is, List.getD_cons_zero, List.getD_cons_succ, List.getD_nil, List.contains_cons, List.contains_nil, Nat.reduceAdd, Nat.reduceBEq, Bool.or_false, Bool.false_or, Bool.or_true, Bool.true_or, Bool.false_eq_true, false_implies, true_implies, true_and, and_true, forall_const]; intros; go_simp; rfl))
            refine Og.Joint2.step_pureP (fun p vs v w h => h.other (by decide)) (fun _ => trivial) ?_; apply Exists.intro; refine And.intro ?_ ?_; focus (intro p vs w2 hp hC hk; obtain rfl := hC.at_ (by decide) hp; refine Og.OptB.mk ?_; revert hk; simp only [Og.KS, Og.K0, Og.Is, List.getD_cons_zero, List.getD_cons_succ, List.getD_nil, List.contains_cons, List.contains_nil, Nat.reduceAdd, Nat.reduceBEq, Bool.or_false, Bool.false_or, Bool.or_true, Bool.true_or, Bool.false_eq_true, false_implies, true_implies, true_and, and_true, forall_const]; intros; go_simp; rfl)
            refine Og.Joint2.step_pureP (fun p vs v w h => h.other (by decide)) (fun _ => trivial) ?_; apply Exists.intro; refine And.intro ?_ ?_; focus (intro p vs w2 hp hC hk; refine Og.OptB.mk ?_; revert hk; simp only [Og.KS, Og.K0, Og.Is, List.getD_cons_zero, List.getD_cons_succ, List.getD_nil, List.contains_cons, List.contains_nil, Nat.reduceAdd, Nat.reduceBEq, Bool.or_false, Bool.false_or, Bool.or_true, Bool.true_or, Bool.false_eq_true, false_implies, true_implies, true_and, and_true, forall_const]; intros; go_simp; rfl)
            refine Og.Joint2.step_any (fun _ _ => True) (fun _ _ _ _ _ => trivial) ?_ ?_; focus (intro p vs w2 hp hC hk; obtain rfl := hC.now hp.1; have hdn : ∀ j ∈ [9, 13], p j = true := (by intro j hj; exact hp.2 j (by revert hj; revert j; decide)); revert hk; simp only [Og.KS, Og.K0, Og.Is, List.getD_cons_zero, List.getD_cons_succ, List.getD_nil, List.contains_cons, List.contains_nil, Nat.reduceAdd, Nat.reduceBEq, Bool.or_false, Bool.false_or, Bool.or_true, Bool.true_or, Bool.false_eq_true, false_implies, true_implies, true_and, and_true, forall_const]; intros; refine optB_storeR (by go_simp) rfl (by go_simp) (by go_simp) R1.out (CX.done hdn))
            intro p vs w5 hp hC hk
            obtain rfl := hC.fin (hp 15 (by decide))
            simp only [Og.KS, Og.K0, Og.Is, List.getD_cons_zero, List.getD_cons_succ, List.getD_nil, List.contains_cons, List.contains_nil, Nat.reduceAdd, Nat.reduceBEq, Bool.or_false, Bool.false_or, Bool.or_true, Bool.true_or, Bool.false_eq_true, false_implies, true_implies, true_and, and_true, forall_const] at hk
            simp only [hk, Act.put, List.setIfInBounds_toArray, List.set_cons_zero, List.set_cons_succ]
            clear hk hp hC
            go_wp2_with (refine wpList_storeR (ty := 3) (x := .tmp 52) (y := .tmp 50) rfl rfl rfl (by go_simp) (by go_simp) R2.out ?_)
            go_wp2_with fail
            go_roundw
            case rel => exact ⟨q, _, HQ.out.1, HQ.out.2.1, by go_num, FIN⟩
            case measure => have := HQ.out; simp [intOf]; omega
          · have hc2 : 0 ≤ z := by omega
            have HLT := Lib.hid hc
            go_wp2_with fail
            refine Og.walk_lit [[],[],[0,1],[2,0,1],[3,2,0,1],[3,2,0,1],[3,2,0,1],[5,6,3,2,0,1],[7,3,5,6,2,0,1],[3,2,0,1],[3,2,0,1],[10,3,2,0,1],[9,11,3,2,0,1,10],[12,3,9,11,2,0,1,10],[4,8,13,3,2,0,1,7,5,6,12,9,11,10],[14,3,4,8,13,2,0,1,7,5,6,12,9,11,10],[3,15,2,0,1,14,4,8,13,7,5,6,12,9,11,10]] (fun w2 => Below wr.heap.size wr w2) (fun w1 w2 => Below w1.heap.size w1 w2) (by kernel_rfl) (by kernel_rfl) (bdrew) ?_
            repeat (first | (refine Og.step_pure (fun _ => Below.refl _ _) ?_; apply Exists.intro; refine And.intro ?_ ?_; focus (intro vs w2 hC hk; have hm := HC w2 hC; revert hk; simp only [Og.KS, Og.K0, Og.Is, List.getD_cons_zero, List.getD_cons_succ, List.getD_nil, List.contains_cons, List.contains_nil, Nat.reduceAdd, Nat.reduceBEq, Bool.or_false, Bool.false_or, Bool.or_true, Bool.true_or, Bool.false_eq_true, false_implies, true_implies, true_and, and_true, forall_const]; intros; go_simp; rfl)) | (refine Og.step_one ?_; apply Exists.intro; refine And.intro ?_ ?_; focus (intro vs w2 hC hk; revert hk; simp only [Og.KS, Og.K0, Og.Is, List.getD_cons_zero, List.getD_cons_succ, List.getD_nil, List.contains_cons, List.contains_nil, Nat.reduceAdd, Nat.reduceBEq, Bool.or_false, Bool.false_or, Bool.or_true, Bool.true_or, Bool.false_eq_true, false_implies, true_implies, true_and, and_true, forall_const]; intros; go_simp; with_reducible refine (HCMP.out w2 hC).mono ?_; rintro e w3 ⟨rfl, hb⟩; exact Og.RetV.mk ⟨bthen hC hb, hb, rfl⟩)))
            intro vs w2 hC hk
            have hm := HC w2 hC
            simp only [Og.KS, Og.K0, Og.Is, List.getD_cons_zero, List.getD_cons_succ, List.getD_nil, List.contains_cons, List.contains_nil, Nat.reduceAdd, Nat.reduceBEq, Bool.or_false, Bool.false_or, Bool.or_true, Bool.true_or, Bool.false_eq_true, false_implies, true_implies, true_and, and_true, forall_const] at hk
            simp only [hk, Act.put, List.setIfInBounds_toArray, List.set_cons_zero, List.set_cons_succ]
            clear hk
            have FIN : Hid (SW B gd od cd ds g tl w2 cur ∧ RP a b xs cur ∧ Up (kd ds) cur a (k + 1) ∧ w.grownBy w2 (some g)) := Lib.hid ⟨hT.out.1.below hC, hT.out.2.1, hT.out.2.2.1.done HJ.out.2.1 HJ.out.1 (.inr (by have h4 := HJ.out.2.2.2.1; have h5 := HLT.out; have h6 := HZ.out; rw [← h4]; unfold ky; omega)), gtr hT.out.2.2.2 (grown_below'' hC _)⟩
            clear hm HC HCMP hC hT
            go_wp2_with fail
            go_roundw
            case rel => exact ⟨k + 1, _, by have := HK.out; omega, .inl (by have := HK.out; omega), by go_num, FIN⟩
            case measure => have := HK.out; simp [intOf]; omega
        · have gj : ¬ (a : Int) < (j : Int) := by omega
          have HJ := Lib.hid (And.intro hj (And.intro hjk hja))
          have HC : ∀ w2, Below wr.heap.size wr w2 → True := fun _ _ => trivial
          clear hj hjk
          go_wp2_with fail
          refine Og.walk_lit [[],[],[0,1],[2,0,1],[3,2,0,1],[3,2,0,1],[3,2,0,1],[5,6,3,2,0,1],[7,3,5,6,2,0,1],[3,2,0,1],[3,2,0,1],[10,3,2,0,1],[9,11,3,2,0,1,10],[12,3,9,11,2,0,1,10],[4,8,13,3,2,0,1,7,5,6,12,9,11,10],[14,3,4,8,13,2,0,1,7,5,6,12,9,11,10],[3,15,2,0,1,14,4,8,13,7,5,6,12,9,11,10]] (fun w2 => Below wr.heap.size wr w2) (fun w1 w2 => Below w1.heap.size w1 w2) (by kernel_rfl) (by kernel_rfl) (bdrew) ?_
          repeat (first | (refine Og.step_pure (fun _ => Below.refl _ _) ?_; apply Exists.intro; refine And.intro ?_ ?_; focus (intro vs w2 hC hk; have hm := HC w2 hC; revert hk; simp only [Og.KS, Og.K0, Og.Is, List.getD_cons_zero, List.getD_cons_succ, List.getD_nil, List.contains_cons, List.contains_nil, Nat.reduceAdd, Nat.reduceBEq, Bool.or_false, Bool.false_or, Bool.or_true, Bool.true_or, Bool.false_eq_true, false_implies, true_implies, true_and, and_true, forall_const]; intros; go_simp; rfl)))
          intro vs w2 hC hk
          have hm := HC w2 hC
          simp only [Og.KS, Og.K0, Og.Is, List.getD_cons_zero, List.getD_cons_succ, List.getD_nil, List.contains_cons, List.contains_nil, Nat.reduceAdd, Nat.reduceBEq, Bool.or_false, Bool.false_or, Bool.or_true, Bool.true_or, Bool.false_eq_true, false_implies, true_implies, true_and, and_true, forall_const] at hk
          simp only [hk, Act.put, List.setIfInBounds_toArray, List.set_cons_zero, List.set_cons_succ]
          clear hk
          have FIN : Hid (SW B gd od cd ds g tl w2 cur ∧ RP a b xs cur ∧ Up (kd ds) cur a (k + 1) ∧ w.grownBy w2 (some g)) := Lib.hid ⟨hT.out.1.below hC, hT.out.2.1, hT.out.2.2.1.done HJ.out.2.1 HJ.out.1 (.inl (by have := HJ.out; omega)), gtr hT.out.2.2.2 (grown_below'' hC _)⟩
          clear hm HC  hC hT
          go_wp2_with fail
          go_roundw
          case rel => exact ⟨k + 1, _, by have := HK.out; omega, .inl (by have := HK.out; omega), by go_num, FIN⟩
          case measure => have := HK.out; simp [intOf]; omega
    · have hkn : ¬ (k : Int) < (b : Int) := by omega
      have FIN : Hid (Up (kd ds) cur a b) := Lib.hid (hT.out.2.2.1.sub (Nat.le_refl _) (by omega))
      go_wp2_with fail
      go_end0
      exact ⟨rfl, _, hT.out.1, hT.out.2.1, FIN.out, hT.out.2.2.2⟩

end Go.Proofs.YtjbglifmppilfaaDoor
namespace Go.Proofs.YtjbglifmppilfaaDoor
open Go.ChangeShapes Go.WideShapes Go.ChangeAt Go.RowKit
set_option linter.unusedVariables false
set_option linter.unusedSimpArgs false
attribute [local go_sem] Og.Opt Og.OpY

set_option maxRecDepth 100000 in
set_option maxHeartbeats 4000000 in
theorem rot_ok (B gd od cd : Nat) (ds : List Int) (g : Nat) (tl : List Value) (c a m b : Nat) (xs : List Nat) (w : World) (h : SW B gd od cd ds g tl w xs) (ham : a < m) (hmb : m < b) (hb : b ≤ xs.length) (hl : xs.length ≤ 1000) :
    Calls Tryd.prog 79 #[.slice (some ⟨g, 0, none⟩) xs.length c, .int .i64 a, .int .i64 m, .int .i64 b, .func (.func 33) #[] #[.pointer (some ⟨B, 0, none⟩)]] w fun e w' => e = .returned (.tuple #[]) ∧ ∃ ys, SW B gd od cd ds g tl w' ys ∧ Rot xs ys a m b ∧ RP a b xs ys ∧ w.grownBy w' (some g) := by
  obtain ⟨l, hn⟩ : ∃ l, l = xs.length := ⟨_, rfl⟩
  rw [← hn] at hb hl ⊢
  have HL := Lib.hid hn
  have H := Lib.hid h
  have HAB := Lib.hid (And.intro ham (And.intro hmb (And.intro hb hl)))
  have w1 : IntKind.i64.wrap ((m : Int) - (a : Int)) = ((m - a : Nat) : Int) := by rw [IntKind.wrap_i64]; omega
  have w2 : IntKind.i64.wrap ((b : Int) - (m : Int)) = ((b - m : Nat) : Int) := by rw [IntKind.wrap_i64]; omega
  have SWR := Lib.hid (fun (p q n : Nat) (cur : List Nat) (wr : World) (hs : SW B gd od cd ds g tl wr cur) (h1 : p + n ≤ q) (h2 : q + n ≤ cur.length) (h3 : cur.length = l) => (show Calls Tryd.prog 88 #[.slice (some ⟨g, 0, none⟩) l c, .int .i64 p, .int .i64 q, .int .i64 n, .func (.func 33) #[] #[.pointer (some ⟨B, 0, none⟩)]] wr (fun e w' => e = .returned (.tuple #[]) ∧ ∃ ys, SW B gd od cd ds g tl w' ys ∧ SwR cur ys p q n ∧ RP p (q + n) cur ys ∧ wr.grownBy w' (some g)) from h3 ▸ swr_ok B gd od cd ds g tl c p q n cur wr hs h1 h2 (by omega)))
  clear hn h ham hmb hb hl
  go_enter Tryd.func79, Tryd.ntmps79
  go_wp2_with fail
  go_loopw [10, 11] (fun u v wr => ∃ (i j : Nat) (cur : List Nat), (0 < i ∧ 0 < j ∧ i ≤ m - a ∧ j ≤ b - m) ∧ u = .int .i64 i ∧ v = .int .i64 j ∧ Hid (SW B gd od cd ds g tl wr cur ∧ RotL xs cur a m b i j ∧ RP a b xs cur ∧ w.grownBy wr (some g))) (fun u v _ => (intOf u).toNat + (intOf v).toNat)
  case atStart => exact ⟨m - a, b - m, xs, by have := HAB.out; omega, rfl, rfl, Lib.hid ⟨H.out, RotL.start xs (by have := HAB.out; omega) (by have := HAB.out; omega), RP.refl _ _ _, grown_refl _ _⟩⟩
  case round =>
    obtain ⟨i, j, cur, hij, rfl, rfl, hT⟩ := hrel
    have hlen : cur.length = l := by rw [hT.out.2.2.1.len, HL.out]
    have wp : IntKind.i64.wrap ((m : Int) - (i : Int)) = ((m - i : Nat) : Int) := by have := HAB.out; rw [IntKind.wrap_i64]; omega
    have HIJ := Lib.hid (And.intro hij hlen)
    clear w1 w2
    by_cases he : i = j
    · subst he
      have CALL := Lib.hid (SWR.out (m - i) m i cur wr hT.out.1 (by have := HAB.out; omega) (by have := HAB.out; omega) hlen)
      clear hij hlen
      go_wp2_with fail
      with_reducible refine CALL.out.mono ?_
      rintro e w3 ⟨rfl, ys, S, W, R, G⟩
      have FIN := Lib.hid (show SW B gd od cd ds g tl w3 ys ∧ Rot xs ys a m b ∧ RP a b xs ys ∧ w.grownBy w3 (some g) from ⟨S, hT.out.2.1.done HIJ.out.1.1 (by have := HIJ.out; have := HAB.out; omega) W, hT.out.2.2.1.trans (R.mono (by have := HIJ.out; have := HAB.out; omega) (by have := HIJ.out; have := HAB.out; omega)), gtr hT.out.2.2.2 G⟩)
      clear S W R G hT CALL SWR
      go_wp2_with fail
      go_end0
      exact ⟨rfl, _, FIN.out⟩
    · have gne : ¬ (i : Int) = (j : Int) := by omega
      by_cases hlt : j < i
      · have wi : IntKind.i64.wrap ((i : Int) - (j : Int)) = ((i - j : Nat) : Int) := by have := HAB.out; rw [IntKind.wrap_i64]; omega
        have CALL := Lib.hid (SWR.out (m - i) m j cur wr hT.out.1 (by have := HAB.out; omega) (by have := HAB.out; omega) hlen)
        have HLT := Lib.hid hlt
        clear hij hlen
        go_wp2_with fail
        with_reducible refine CALL.out.mono ?_
        rintro e w3 ⟨rfl, ys, S, W, R, G⟩
        have FIN := Lib.hid (show SW B gd od cd ds g tl w3 ys ∧ RotL xs ys a m b (i - j) j ∧ RP a b xs ys ∧ w.grownBy w3 (some g) from ⟨S, hT.out.2.1.left HLT.out HIJ.out.1.2.1 (by have := HIJ.out; have := HAB.out; omega) W, hT.out.2.2.1.trans (R.mono (by have := HIJ.out; have := HAB.out; omega) (by have := HIJ.out; have := HAB.out; omega)), gtr hT.out.2.2.2 G⟩)
        clear S W R G hT CALL
        go_wp2_with fail
        go_roundw
        case rel => exact ⟨i - j, j, _, by have := HIJ.out; have := HLT.out; omega, by go_num, by go_num, FIN⟩
        case measure => have := HIJ.out; have := HLT.out; simp [intOf]; omega
      · have wj : IntKind.i64.wrap ((j : Int) - (i : Int)) = ((j - i : Nat) : Int) := by have := HAB.out; rw [IntKind.wrap_i64]; omega
        have wq : IntKind.i64.wrap ((m : Int) + (j : Int)) = (m : Int) + (j : Int) := by have := HAB.out; rw [IntKind.wrap_i64]; omega
        have wr2 : IntKind.i64.wrap ((m : Int) + (j : Int) - (i : Int)) = ((m + j - i : Nat) : Int) := by have := HAB.out; rw [IntKind.wrap_i64]; omega
        have CALL := Lib.hid (SWR.out (m - i) (m + j - i) i cur wr hT.out.1 (by have := HAB.out; omega) (by have := HAB.out; omega) hlen)
        have HLT := Lib.hid (show i < j by omega)
        clear hij hlen
        go_wp2_with fail
        with_reducible refine CALL.out.mono ?_
        rintro e w3 ⟨rfl, ys, S, W, R, G⟩
        have FIN := Lib.hid (show SW B gd od cd ds g tl w3 ys ∧ RotL xs ys a m b i (j - i) ∧ RP a b xs ys ∧ w.grownBy w3 (some g) from ⟨S, hT.out.2.1.right HLT.out HIJ.out.1.1 (by have := HIJ.out; have := HAB.out; omega) W, hT.out.2.2.1.trans (R.mono (by have := HIJ.out; have := HAB.out; omega) (by have := HIJ.out; have := HAB.out; omega)), gtr hT.out.2.2.2 G⟩)
        clear S W R G hT CALL
        go_wp2_with fail
        go_roundw
        case rel => exact ⟨i, j - i, _, by have := HIJ.out; have := HLT.out; omega, by go_num, by go_num, FIN⟩
        case measure => have := HIJ.out; have := HLT.out; simp [intOf]; omega

end Go.Proofs.YtjbglifmppilfaaDoor
