/- Distances grow with the links' cost, the parents stay; plain; conditions as stated. Sets of numbers as one natural number; plain; no condition. The reference's sets: Has, List, Of, choose, Or, And, Len; conditions as stated. The reference makes a set of a list; conditions as stated. -/
import Derived.Test.YtjbglifmppilfaaDoorS8
import Derived.Test.YtjbglifmppilfaaDoorS2
namespace Go.Proofs.YtjbglifmppilfaaDoor
set_option linter.unusedVariables false
def phi (c x : Int) : Int := if x = 1073741824 then 1073741824 else c * x
def sL (c : Int) (ds : List Int) : List Int := ds.map (phi c)
def scK (c : Int) (l : Lk) : Lk := ⟨l.f, l.t, c * l.c, l.d⟩
def scE (c : Int) (e : En) : En := ⟨c * e.k, e.n⟩
def scH (c : Int) (s : Hs) : Hs := ⟨s.es.map (scE c), s.tb⟩
def scT (c : Int) (s : Ts) : Ts := ⟨scH c s.hs, sL c s.ds, s.ps⟩
/-- far, or a small number -/
def fnB (B : Nat) (x : Int) : Prop := x = 1073741824 ∨ (0 ≤ x ∧ x ≤ B)
theorem swapP_sc {c : Int} (s : Hs) (i j : Nat) : swapP (scH c s) i j = (swapP s i j).map (scH c) := by
  unfold swapP scH
  simp only [List.getElem?_map]
  cases s.es[i]? with
  | none => rfl
  | some x =>
    cases s.es[j]? with
    | none => rfl
    | some y =>
      simp only [Option.map_some]
      have e1 : (scE c x).n = x.n := rfl
      have e2 : (scE c y).n = y.n := rfl
      rw [e1, e2]
      split
      · simp [List.map_set]
      · rfl
theorem phi_small {c x : Int} (h0 : 0 ≤ x) (h1 : x ≤ 2001) : phi c x = c * x := by unfold phi; rw [if_neg (by omega)]
section
variable {c : Int} (hc : 1 ≤ c)
include hc
theorem bef_sc (x y : En) : bef (scE c x) (scE c y) = bef x y := by
  unfold bef scE
  simp only [Int.mul_lt_mul_left (show 0 < c by omega), Int.mul_eq_mul_left_iff (show c ≠ 0 by omega)]
theorem upP_sc : ∀ (f : Nat) (s : Hs) (i : Nat), upP f (scH c s) i = (upP f s i).map (scH c)
  | 0, s, i => rfl
  | f + 1, s, i => by
    rw [upP, upP]
    by_cases h0 : i = 0
    · rw [if_pos h0, if_pos h0]; rfl
    · rw [if_neg h0, if_neg h0]
      have e : ∀ k : Nat, (scH c s).es[k]? = (s.es[k]?).map (scE c) := fun k => by simp [scH]
      rw [e, e]
      cases s.es[i]? with
      | none => rfl
      | some x =>
        cases s.es[(i - 1) / 2]? with
        | none => rfl
        | some y =>
          simp only [Option.map_some]
          rw [bef_sc hc]
          split
          · rw [swapP_sc]
            cases swapP s i ((i - 1) / 2) with
            | none => rfl
            | some s' => exact upP_sc f s' _
          · rfl
theorem kidP_sc (es : List En) (k : Nat) : kidP (es.map (scE c)) k = kidP es k := by
  unfold kidP
  rw [List.length_map]
  split
  · simp only [List.getElem?_map]
    cases es[k + 1]? with
    | none => rfl
    | some x =>
      cases es[k]? with
      | none => rfl
      | some y =>
        simp only [Option.map_some]
        rw [bef_sc hc]
  · rfl
theorem downP_sc : ∀ (f : Nat) (s : Hs) (i : Nat), downP f (scH c s) i = (downP f s i).map (scH c)
  | 0, s, i => rfl
  | f + 1, s, i => by
    rw [downP, downP]
    have el : (scH c s).es.length = s.es.length := by simp [scH]
    rw [el]
    by_cases h0 : s.es.length ≤ 2 * i + 1
    · rw [if_pos h0, if_pos h0]; rfl
    · rw [if_neg h0, if_neg h0]
      have ek : kidP (scH c s).es (2 * i + 1) = kidP s.es (2 * i + 1) := kidP_sc hc _ _
      rw [ek]
      cases kidP s.es (2 * i + 1) with
      | none => rfl
      | some k =>
        simp only [Option.bind_some]
        have e : ∀ k : Nat, (scH c s).es[k]? = (s.es[k]?).map (scE c) := fun k => by simp [scH]
        rw [e, e]
        cases s.es[k]? with
        | none => rfl
        | some x =>
          cases s.es[i]? with
          | none => rfl
          | some y =>
            simp only [Option.map_some]
            rw [bef_sc hc]
            split
            · rw [swapP_sc]
              cases swapP s i k with
              | none => rfl
              | some s' => exact downP_sc f s' _
            · rfl
theorem pushP_sc (s : Hs) (n k : Int) : pushP (scH c s) n (c * k) = (pushP s n k).map (scH c) := by
  unfold pushP
  have el : (scH c s).es.length = s.es.length := by simp [scH]
  have et : (scH c s).tb = s.tb := rfl
  rw [el, et]
  split
  · rw [← upP_sc hc]
    simp [scH, scE]
  · rfl
theorem lowerP_sc (s : Hs) (n k : Int) : lowerP (scH c s) n (c * k) = (lowerP s n k).map (scH c) := by
  unfold lowerP
  have el : (scH c s).es.length = s.es.length := by simp [scH]
  have et : (scH c s).tb = s.tb := rfl
  rw [et]
  split
  · cases s.tb[n.toNat]? with
    | none => rfl
    | some z =>
      simp only []
      have e : (scH c s).es[(z - 1).toNat]? = (s.es[(z - 1).toNat]?).map (scE c) := by simp [scH]
      rw [e]
      cases s.es[(z - 1).toNat]? with
      | none => rfl
      | some x =>
        simp only [Option.map_some]
        have e1 : (scE c x).k = c * x.k := rfl
        have e2 : (scE c x).n = x.n := rfl
        rw [el, e1, e2]
        have hm : (c * k < c * x.k) ↔ k < x.k := Int.mul_lt_mul_left (show 0 < c by omega)
        by_cases hp : 1 ≤ z ∧ k < x.k ∧ s.es.length < 1000
        · rw [if_pos hp, if_pos ⟨hp.1, hm.2 hp.2.1, hp.2.2⟩, ← upP_sc hc]
          simp [scH, scE, List.map_set]
        · rw [if_neg hp, if_neg (fun h => hp ⟨h.1, hm.1 h.2.1, h.2.2⟩)]
          rfl
  · rfl
theorem popP_sc (s : Hs) : popP (scH c s) = (popP s).map fun r => (scE c r.1, scH c r.2) := by
  unfold popP
  have el : (scH c s).es.length = s.es.length := by simp [scH]
  have e : (scH c s).es[0]? = (s.es[0]?).map (scE c) := by simp [scH]
  rw [e, el]
  cases s.es[0]? with
  | none => rfl
  | some x =>
    simp only [Option.map_some]
    have e2 : (scE c x).n = x.n := rfl
    rw [e2]
    split
    · rw [swapP_sc]
      cases swapP s 0 (s.es.length - 1) with
      | none => rfl
      | some s1 =>
        simp only [Option.map_some, Option.bind_some]
        split
        · have e3 : (⟨(scH c s1).es.take (s.es.length - 1), (scH c s1).tb.set x.n.toNat 0⟩ : Hs) = scH c ⟨s1.es.take (s.es.length - 1), s1.tb.set x.n.toNat 0⟩ := by simp [scH, List.map_take]
          rw [e3, downP_sc hc]
          cases downP 200 ⟨s1.es.take (s.es.length - 1), s1.tb.set x.n.toNat 0⟩ 0 <;> rfl
        · simp [scH, List.map_take]
    · rfl
theorem mulb {x : Int} (h0 : 0 ≤ x) (h1 : x ≤ 2001) (hc5 : c ≤ 1000) : 0 ≤ c * x ∧ c * x ≤ 2001000 := by
  refine ⟨Int.mul_nonneg (by omega) h0, ?_⟩
  calc c * x ≤ 1000 * x := Int.mul_le_mul_of_nonneg_right hc5 h0
    _ ≤ 2001000 := by omega
end
theorem phi_inf (c : Int) : phi c 1073741824 = 1073741824 := by unfold phi; rw [if_pos rfl]
theorem phi_zero (c : Int) : phi c 0 = 0 := by unfold phi; rw [if_neg (by omega), Int.mul_zero]
theorem sL_getD (c : Int) (ds : List Int) (i : Nat) : (sL c ds).getD i 0 = phi c (ds.getD i 0) := by
  unfold sL
  rw [List.getD_eq_getElem?_getD, List.getD_eq_getElem?_getD, List.getElem?_map]
  cases ds[i]? with
  | none => simp [phi_zero]
  | some x => rfl
theorem sL_set (c : Int) (ds : List Int) (i : Nat) {x y : Int} (h : y = phi c x) : (sL c ds).set i y = sL c (ds.set i x) := by
  unfold sL
  rw [List.map_set, h]
theorem fnB_mono {B B' : Nat} {x : Int} (h : fnB B x) (hB : B ≤ B') : fnB B' x := by
  unfold fnB at h ⊢
  omega
theorem fnB_getD {B : Nat} {ds : List Int} (h : ∀ x ∈ ds, fnB B x) (i : Nat) : fnB B (ds.getD i 0) := by
  rw [List.getD_eq_getElem?_getD]
  cases e : ds[i]? with
  | none => exact .inr ⟨Int.le_refl _, by simp⟩
  | some x => exact h x (List.mem_of_getElem? e)
theorem fnB_set {B : Nat} {ds : List Int} {i : Nat} {x : Int} (h : ∀ x ∈ ds, fnB B x) (hx : fnB B x) : ∀ y ∈ ds.set i x, fnB B y := by
  intro y hy
  rcases List.mem_or_eq_of_mem_set hy with h1 | h1
  · exact h y h1
  · rw [h1]; exact hx
/-- one turn of a link in the search -/
theorem relaxP_sc {c : Int} (hc : 1 ≤ c) (hc5 : c ≤ 1000) (s : Ts) (m : Nat) (d : Int) (l : Lk) (hd0 : 0 ≤ d) (hd1 : d ≤ 1000) (hl : l.c = 1) (hf : ∀ x ∈ s.ds, fnB 1001 x) :
    relaxP (scT c s) m (c * d) (scK c l) = (relaxP s m d l).map (scT c) ∧ ∀ s', relaxP s m d l = some s' → ∀ x ∈ s'.ds, fnB 1001 x := by
  have hb := mulb hc hd0 (by omega) hc5
  have hb1 := mulb hc (x := d + 1) (by omega) (by omega) hc5
  have e1 : dsum d l.c = d + 1 := by unfold dsum clp; rw [hl]; omega
  have e2 : dsum (c * d) (scK c l).c = c * (d + 1) := by
    have : (scK c l).c = c := by simp [scK, hl]
    rw [this]
    unfold dsum clp
    rw [Int.mul_add, Int.mul_one] at *
    omega
  have et : (scK c l).t = l.t := rfl
  have ep : phi c (d + 1) = c * (d + 1) := phi_small (by omega) (by omega)
  unfold relaxP
  rw [e1, e2, et]
  by_cases ho : oks l.t = true
  · rw [if_pos ho, if_pos ho]
    have ed : (scT c s).ds[l.t.toNat]? = (s.ds[l.t.toNat]?).map (phi c) := by simp [scT, sL]
    rw [ed]
    cases hold : s.ds[l.t.toNat]? with
    | none => exact ⟨rfl, fun s' h => by cases h⟩
    | some old =>
      have hfo := hf old (List.mem_of_getElem? hold)
      simp only [Option.map_some]
      have eh : (scT c s).hs = scH c s.hs := rfl
      have es : (scT c s).ds = sL c s.ds := rfl
      have eps : (scT c s).ps = s.ps := rfl
      rw [eh, es, eps]
      by_cases hi : old = infZ
      · have hp : phi c old = infZ := by rw [hi]; exact phi_inf c
        rw [if_pos hi, if_pos hp, hp, hi, pushP_sc hc]
        have l1 : d + 1 < infZ := by unfold infZ; omega
        have l2 : c * (d + 1) < infZ := by unfold infZ; omega
        simp only [if_pos l1, if_pos l2]
        refine ⟨?_, fun s' h => ?_⟩
        · cases pushP s.hs l.t (d + 1) with
          | none => rfl
          | some h => simp only [Option.map_some, scT]; rw [sL_set c s.ds _ ep.symm]
        · obtain ⟨h', -, rfl⟩ := Option.map_eq_some_iff.1 h
          exact fnB_set hf (.inr ⟨by omega, by omega⟩)
      · have hfo' : 0 ≤ old ∧ old ≤ 1001 := by
          rcases hfo with h | h
          · exact absurd h hi
          · exact ⟨h.1, h.2⟩
        have hbo := mulb hc hfo'.1 (by omega) hc5
        have hp : phi c old = c * old := phi_small hfo'.1 (by omega)
        have hpi : ¬ phi c old = infZ := by rw [hp]; unfold infZ; omega
        rw [if_neg hi, if_neg hpi, hp]
        have hm : (c * (d + 1) < c * old) ↔ d + 1 < old := Int.mul_lt_mul_left (show 0 < c by omega)
        have hm2 : (c * old < c * (d + 1)) ↔ old < d + 1 := Int.mul_lt_mul_left (show 0 < c by omega)
        by_cases hlt : d + 1 < old
        · rw [if_pos hlt, if_pos (hm.2 hlt), lowerP_sc hc]
          refine ⟨?_, fun s' h => ?_⟩
          · cases lowerP s.hs l.t (d + 1) with
            | none => rfl
            | some h => simp only [Option.map_some, scT]; rw [sL_set c s.ds _ ep.symm]
          · obtain ⟨h', -, rfl⟩ := Option.map_eq_some_iff.1 h
            exact fnB_set hf (.inr ⟨by omega, by omega⟩)
        · rw [if_neg hlt, if_neg (fun h => hlt (hm.1 h))]
          by_cases hgt : old < d + 1
          · rw [if_pos hgt, if_pos (hm2.2 hgt)]
            exact ⟨rfl, fun s' h => by cases h; exact hf⟩
          · rw [if_neg hgt, if_neg (fun h => hgt (hm2.1 h))]
            exact ⟨rfl, fun s' h => by cases h; exact hf⟩
  · rw [if_neg ho, if_neg ho]
    exact ⟨rfl, fun s' h => by cases h⟩
theorem relaxL_sc {c : Int} (hc : 1 ≤ c) (hc5 : c ≤ 1000) : ∀ (ls : List Lk) (s : Ts) (m : Nat) (d : Int), 0 ≤ d → d ≤ 1000 → (∀ l ∈ ls, l.c = 1) → (∀ x ∈ s.ds, fnB 1001 x) →
    relaxL (scT c s) m (c * d) (ls.map (scK c)) = (relaxL s m d ls).map (scT c) ∧ ∀ s', relaxL s m d ls = some s' → ∀ x ∈ s'.ds, fnB 1001 x
  | [], s, m, d, _, _, _, hf => ⟨rfl, fun s' h => by cases h; exact hf⟩
  | l :: ls, s, m, d, h0, h1, hl, hf => by
    have hr := relaxP_sc hc hc5 s m d l h0 h1 (hl l (List.mem_cons_self ..)) hf
    rw [List.map_cons, relaxL, relaxL, hr.1]
    cases hs : relaxP s m d l with
    | none => exact ⟨rfl, fun s' h => by cases h⟩
    | some s1 =>
      simp only [Option.map_some, Option.bind_some]
      exact relaxL_sc hc hc5 ls s1 m d h0 h1 (fun l' h => hl l' (List.mem_cons_of_mem _ h)) (hr.2 s1 hs)
/-- the search with links of cost 1, kept small -/
def treeLoopU (xss : List (List Lk)) : Nat → Ts → Option (List Int × List (Int × Int))
  | 0, _ => none
  | f + 1, s => if s.hs.es.length = 0 then some (s.ds, s.ps) else
    (popP s.hs).bind fun r => if oks r.1.n = true ∧ 0 ≤ r.1.k ∧ r.1.k ≤ 1000 then
      match xss[r.1.n.toNat]? with
      | some ls => (relaxL ⟨r.2, s.ds, s.ps⟩ r.1.n.toNat r.1.k ls).bind fun s' => treeLoopU xss f s'
      | none => none
    else none
theorem treeLoop_sc {c : Int} (hc : 1 ≤ c) (hc5 : c ≤ 1000) (xss : List (List Lk)) (hx : ∀ xs ∈ xss, ∀ l ∈ xs, l.c = 1) : ∀ (f : Nat) (s : Ts) (ds : List Int) (ps : List (Int × Int)), (∀ x ∈ s.ds, fnB 1001 x) → treeLoopU xss f s = some (ds, ps) →
    treeLoop (xss.map fun xs => xs.map (scK c)) f (scT c s) = some (sL c ds, ps)
  | 0, s, ds, ps, _, h => by cases h
  | f + 1, s, ds, ps, hf, h => by
    rw [treeLoopU] at h
    rw [treeLoop]
    have el : (scT c s).hs.es.length = s.hs.es.length := by simp [scT, scH]
    rw [el]
    by_cases h0 : s.hs.es.length = 0
    · rw [if_pos h0] at h ⊢
      injection h with h
      obtain ⟨rfl, rfl⟩ := Prod.mk.inj h
      rfl
    · rw [if_neg h0] at h ⊢
      have eh : (scT c s).hs = scH c s.hs := rfl
      rw [eh, popP_sc hc]
      cases hp : popP s.hs with
      | none => rw [hp] at h; cases h
      | some r =>
        rw [hp] at h
        simp only [Option.bind_some, Option.map_some] at h ⊢
        split at h
        · rename_i hk
          have e1 : (scE c r.1).n = r.1.n := rfl
          rw [e1, if_pos hk.1]
          rw [List.getElem?_map]
          cases hxs : xss[r.1.n.toNat]? with
          | none => rw [hxs] at h; cases h
          | some ls =>
            rw [hxs] at h
            simp only [Option.map_some] at h ⊢
            have hr := relaxL_sc hc hc5 ls ⟨r.2, s.ds, s.ps⟩ r.1.n.toNat r.1.k hk.2.1 hk.2.2 (hx ls (List.mem_of_getElem? hxs)) hf
            have e2 : relaxL ⟨scH c r.2, (scT c s).ds, (scT c s).ps⟩ r.1.n.toNat (scE c r.1).k (ls.map (scK c)) = (relaxL ⟨r.2, s.ds, s.ps⟩ r.1.n.toNat r.1.k ls).map (scT c) := hr.1
            rw [e2]
            cases hrl : relaxL ⟨r.2, s.ds, s.ps⟩ r.1.n.toNat r.1.k ls with
            | none => rw [hrl] at h; cases h
            | some s1 =>
              rw [hrl] at h
              simp only [Option.map_some, Option.bind_some] at h ⊢
              exact treeLoop_sc hc hc5 xss hx f s1 ds ps (hr.2 s1 hrl) h
        · cases h
def treeU (xss : List (List Lk)) (root : Int) : Option (List Int × List (Int × Int)) :=
  if oks root = true then (pushP h0s root 0).bind fun h => treeLoopU xss 2000 ⟨h, (List.replicate 128 infZ).set root.toNat 0, zP⟩ else none
theorem treeP_sc {c : Int} (hc : 1 ≤ c) (hc5 : c ≤ 1000) (xss : List (List Lk)) (root : Int) (ds : List Int) (ps : List (Int × Int)) (hx : ∀ xs ∈ xss, ∀ l ∈ xs, l.c = 1) (h : treeU xss root = some (ds, ps)) : treeP (xss.map fun xs => xs.map (scK c)) root = some (sL c ds, ps) := by
  unfold treeU at h
  unfold treeP
  split at h
  · rename_i ho
    rw [if_pos ho]
    have e0 : pushP h0s root 0 = (pushP h0s root 0).map (scH c) := by
      have := pushP_sc hc h0s root 0
      rw [Int.mul_zero] at this
      exact this
    cases hp : pushP h0s root 0 with
    | none => rw [hp] at h; cases h
    | some s =>
      rw [hp] at h e0
      simp only [Option.bind_some, Option.map_some, Option.some.injEq] at h e0 ⊢
      have e1 : (⟨s, (List.replicate 128 infZ).set root.toNat 0, zP⟩ : Ts) = scT c ⟨s, (List.replicate 128 infZ).set root.toNat 0, zP⟩ := by
        unfold scT
        simp only []
        rw [← e0, ← sL_set c (List.replicate 128 infZ) root.toNat (phi_zero c).symm]
        congr 2
      rw [e1]
      refine treeLoop_sc hc hc5 xss hx 2000 _ ds ps ?_ h
      exact fnB_set (fun x hx => .inl (List.eq_of_mem_replicate hx)) (.inr ⟨Int.le_refl _, by omega⟩)
  · cases h
end Go.Proofs.YtjbglifmppilfaaDoor
set_option linter.unusedVariables false
namespace Go.Proofs.YtjbglifmppilfaaDoor
def putM (M n : Nat) : Nat := M ||| 2 ^ n
def ofM (xs : List Nat) : Nat := xs.foldl putM 0
def listM (M : Nat) : List Nat := (List.range 128).filter (fun n => M.testBit n)
def loM (M : Nat) : Int := ((M % 2 ^ 64 : Nat) : Int)
def hiM (M : Nat) : Int := ((M / 2 ^ 64 : Nat) : Int)
theorem putM_bit (M n k : Nat) : (putM M n).testBit k = (M.testBit k || decide (n = k)) := by
  unfold putM
  rw [Nat.testBit_or, Nat.testBit_two_pow]
theorem foldM_bit : ∀ (xs : List Nat) (M k : Nat), (xs.foldl putM M).testBit k = (M.testBit k || xs.contains k)
  | [], M, k => by simp
  | x :: xs, M, k => by
    rw [List.foldl_cons, foldM_bit xs, putM_bit, List.contains_cons, Bool.or_assoc]
    congr 2
    by_cases h : x = k
    · subst h; simp
    · simp [h, Ne.symm h]
theorem ofM_bit (xs : List Nat) (k : Nat) : (ofM xs).testBit k = xs.contains k := by
  unfold ofM
  rw [foldM_bit, Nat.zero_testBit, Bool.false_or]
theorem putM_lt {M n : Nat} (h : M < 2 ^ 128) (hn : n < 128) : putM M n < 2 ^ 128 := by
  unfold putM
  exact Nat.or_lt_two_pow h (Nat.pow_lt_pow_right (by omega) hn)
theorem foldM_lt : ∀ (xs : List Nat) (M : Nat), M < 2 ^ 128 → (∀ x ∈ xs, x < 128) → xs.foldl putM M < 2 ^ 128
  | [], M, h, _ => h
  | x :: xs, M, h, hx => by
    rw [List.foldl_cons]
    exact foldM_lt xs _ (putM_lt h (hx x (List.mem_cons_self ..))) fun y hy => hx y (List.mem_cons_of_mem _ hy)
theorem ofM_lt {xs : List Nat} (h : ∀ x ∈ xs, x < 128) : ofM xs < 2 ^ 128 := foldM_lt xs 0 (by omega) h
theorem listM_lt {M n : Nat} (h : n ∈ listM M) : n < 128 := by
  unfold listM at h
  simpa using (List.mem_filter.1 h).1
theorem bit_lt {M k : Nat} (h : M < 2 ^ 128) (hk : 128 ≤ k) : M.testBit k = false := Nat.testBit_lt_two_pow (Nat.lt_of_lt_of_le h (Nat.pow_le_pow_right (by omega) hk))
theorem ofM_filter (p : Nat → Bool) (M : Nat) (h : M < 2 ^ 128) (hp : ∀ k, k < 128 → M.testBit k = p k) : ofM ((List.range 128).filter p) = M := by
  apply Nat.eq_of_testBit_eq
  intro k
  rw [ofM_bit]
  by_cases hk : k < 128
  · rw [hp k hk]
    cases hpk : p k with
    | true => rw [List.contains_iff_mem]; simp [hk, hpk]
    | false =>
      rw [Bool.eq_false_iff]
      intro hc
      rw [List.contains_iff_mem, List.mem_filter] at hc
      rw [hpk] at hc
      cases hc.2
  · rw [bit_lt h (by omega), Bool.eq_false_iff]
    intro hc
    rw [List.contains_iff_mem, List.mem_filter, List.mem_range] at hc
    omega
theorem ofM_or {A B : Nat} (ha : A < 2 ^ 128) (hb : B < 2 ^ 128) : ofM ((List.range 128).filter fun n => A.testBit n || B.testBit n) = A ||| B :=
  ofM_filter _ _ (Nat.or_lt_two_pow ha hb) fun k _ => Nat.testBit_or ..
theorem ofM_and {A B : Nat} (ha : A < 2 ^ 128) : ofM ((List.range 128).filter fun n => A.testBit n && B.testBit n) = A &&& B :=
  ofM_filter _ _ (Nat.lt_of_le_of_lt Nat.and_le_left ha) fun k _ => Nat.testBit_and ..
theorem half (n i : Nat) : n / 2 ^ i / 2 = n / 2 ^ (i + 1) := by rw [Nat.div_div_eq_div_mul, Nat.pow_succ]
theorem lo_bit (M : Nat) {n : Nat} (h : n < 64) : (M % 2 ^ 64 / 2 ^ n % 2 = 1) = (M.testBit n = true) := by
  have : (M % 2 ^ 64).testBit n = M.testBit n := by rw [Nat.testBit_mod_two_pow]; simp [h]
  rw [← this, Nat.testBit_eq_decide_div_mod_eq]
  simp
theorem hi_bit (M : Nat) {n : Nat} (h : 64 ≤ n) : (M / 2 ^ 64 / 2 ^ (n - 64) % 2 = 1) = (M.testBit n = true) := by
  have : M / 2 ^ 64 / 2 ^ (n - 64) = M / 2 ^ n := by rw [Nat.div_div_eq_div_mul, ← Nat.pow_add, show 64 + (n - 64) = n by omega]
  rw [this, Nat.testBit_eq_decide_div_mod_eq]
  simp
theorem add_bit {M n : Nat} (h : M.testBit n = false) : M + 2 ^ n = putM M n := by
  have e := Nat.div_add_mod M (2 ^ (n + 1))
  have hlt : M % 2 ^ (n + 1) < 2 ^ n := by
    have h1 : M % 2 ^ (n + 1) < 2 ^ (n + 1) := Nat.mod_lt _ (Nat.two_pow_pos _)
    have h2 : (M % 2 ^ (n + 1)).testBit n = false := by rw [Nat.testBit_mod_two_pow]; simp [h]
    apply Classical.byContradiction
    intro hc
    have : (M % 2 ^ (n + 1)).testBit n = true := by
      rw [Nat.testBit_eq_decide_div_mod_eq]
      have : M % 2 ^ (n + 1) / 2 ^ n = 1 := by
        have ha : 1 ≤ M % 2 ^ (n + 1) / 2 ^ n := (Nat.le_div_iff_mul_le (Nat.two_pow_pos _)).2 (by omega)
        have hb : M % 2 ^ (n + 1) / 2 ^ n < 2 := (Nat.div_lt_iff_lt_mul (Nat.two_pow_pos _)).2 (by rw [Nat.pow_succ] at h1; omega)
        omega
      simp [this]
    rw [this] at h2
    cases h2
  unfold putM
  have e1 : M = 2 ^ (n + 1) * (M / 2 ^ (n + 1)) ||| M % 2 ^ (n + 1) := by
    rw [← Nat.two_pow_add_eq_or_of_lt (Nat.mod_lt _ (Nat.two_pow_pos _)), e]
  have e2 : 2 ^ n ||| M % 2 ^ (n + 1) = 2 ^ n + M % 2 ^ (n + 1) := by
    have := Nat.two_pow_add_eq_or_of_lt hlt 1
    rw [Nat.mul_one] at this
    exact this.symm
  have hs : 2 ^ n + M % 2 ^ (n + 1) < 2 ^ (n + 1) := by
    have e9 : 2 ^ (n + 1) = 2 ^ n * 2 := Nat.pow_succ ..
    generalize M % 2 ^ (n + 1) = r at *
    omega
  have e3 := Nat.two_pow_add_eq_or_of_lt hs (M / 2 ^ (n + 1))
  calc M + 2 ^ n = 2 ^ (n + 1) * (M / 2 ^ (n + 1)) + (2 ^ n + M % 2 ^ (n + 1)) := by omega
    _ = 2 ^ (n + 1) * (M / 2 ^ (n + 1)) ||| (2 ^ n ||| M % 2 ^ (n + 1)) := by rw [e3, e2]
    _ = M ||| 2 ^ n := by
      conv => rhs; rw [e1]
      rw [Nat.or_assoc, Nat.or_comm (M % 2 ^ (n + 1))]
theorem put_lo {M n : Nat} (h : M.testBit n = false) (hn : n < 64) : M % 2 ^ 64 + 2 ^ n = putM M n % 2 ^ 64 ∧ M / 2 ^ 64 = putM M n / 2 ^ 64 := by
  have h2 : (M % 2 ^ 64).testBit n = false := by rw [Nat.testBit_mod_two_pow]; simp [h]
  have hlt : putM (M % 2 ^ 64) n < 2 ^ 64 := by
    unfold putM
    exact Nat.or_lt_two_pow (Nat.mod_lt _ (Nat.two_pow_pos _)) (Nat.pow_lt_pow_right (by omega) hn)
  rw [← add_bit h2] at hlt
  have e := add_bit h
  have e4 := Nat.div_add_mod M (2 ^ 64)
  have p0 : 0 < 2 ^ n := Nat.two_pow_pos n
  generalize 2 ^ n = q at *
  rw [← e]
  omega
theorem put_hi {M n : Nat} (h : M.testBit n = false) (hn : 64 ≤ n) : M / 2 ^ 64 + 2 ^ (n - 64) = putM M n / 2 ^ 64 ∧ M % 2 ^ 64 = putM M n % 2 ^ 64 := by
  have e := add_bit h
  rw [← e]
  have : 2 ^ n = 2 ^ (n - 64) * 2 ^ 64 := by rw [← Nat.pow_add, show n - 64 + 64 = n by omega]
  rw [this]
  omega
theorem pairM {A B : Nat} (h1 : loM A = loM B) (h2 : hiM A = hiM B) : A = B := by
  unfold loM at h1
  unfold hiM at h2
  have e1 := Nat.div_add_mod A (2 ^ 64)
  have e2 := Nat.div_add_mod B (2 ^ 64)
  omega
end Go.Proofs.YtjbglifmppilfaaDoor
namespace Go.Proofs.YtjbglifmppilfaaDoor
open Go.ChangeShapes Go.WideShapes Go.ChangeAt Go.RowKit
set_option linter.unusedVariables false
set_option linter.unusedSimpArgs false
attribute [local go_sem] Og.Opt Og.OpY
theorem cinfo25s : (Tryd.prog.info? 35).map (·.size) = some 2 := by kernel_rfl
theorem csize25 (w : World) : (sizeOf 35).run Tryd.prog w = .ok 2 w := by kernel_rfl
theorem cisAgg25 (w : World) : (isAgg 35).run Tryd.prog w = .ok true w := by kernel_rfl
theorem cinfo25 : (Tryd.prog.info? 35).map (fun i => (i.zero, i.size, i.bytes)) = some (some (.agg #[.int .u64 0, .int .u64 0]), 2, 16) := by kernel_rfl
theorem cinfo3 : (Tryd.prog.info? 3).map (fun i => (i.zero, i.size, i.bytes)) = some (some (.int .i64 0), 1, 8) := by kernel_rfl
theorem cinfo4 : (Tryd.prog.info? 4).map (fun i => (i.zero, i.size, i.bytes)) = some (some (.bool false), 1, 1) := by kernel_rfl
/-- cells of a number, of a set -/
def cI (n : Int) : List Value := [.int .i64 n]
def cM (M : Nat) : List Value := [.int .u64 (loM M), .int .u64 (hiM M)]
def cT (b : Bool) : List Value := [.bool b]
def mV (M : Nat) : Value := .agg #[.int .u64 (loM M), .int .u64 (hiM M)]
theorem cI_len (n : Int) : (cI n).length = 1 := rfl
theorem cM_len (n : Nat) : (cM n).length = 2 := rfl
theorem cT_len (n : Bool) : (cT n).length = 1 := rfl
theorem cI_one (n : Int) : ∀ u ∈ cI n, u.oneCell' = true := by intro u hu; simp [cI] at hu; subst hu; rfl
theorem cM_one (n : Nat) : ∀ u ∈ cM n, u.oneCell' = true := by intro u hu; simp [cM] at hu; rcases hu with rfl | rfl <;> rfl
theorem cT_one (n : Bool) : ∀ u ∈ cT n, u.oneCell' = true := by intro u hu; simp [cT] at hu; subst hu; rfl
theorem snocG {α : Type} {f : α → List Value} {w' : World} {base m : Nat} {ty : TypeId} {v' : Value} {pre : List α} {r : α} (h : w'.ownsRow base ty m v' (pre.length + 1) (pre.flatMap f ++ f r)) : w'.ownsRow base ty m v' (pre ++ [r]).length ((pre ++ [r]).flatMap f) := by
  rw [List.length_append, List.flatMap_append, List.flatMap_cons, List.flatMap_nil, List.append_nil]
  exact h
/-- append of one, for any element -/
theorem wpList_appG {α : Type} (f : α → List Value) (m sl ty by' : Nat) {z : Value} (hm : ∀ x, (f x).length = m) (h1 : ∀ x, ∀ u ∈ f x, u.oneCell' = true) (h0 : 0 < m)
    (hu : Tryd.prog.underlying sl = some (.slice ty)) (hinf : (Tryd.prog.info? ty).map (fun i => (i.zero, i.size, i.bytes)) = some (some z, m, by')) (hzs : z.cells.size = m) (hb : by' ≤ 32)
    {ops : Array Oper} {rest : List Oper} {o : Oper} {a : Act} {w : World} {Q : Exit → Act → World → Prop} (hgd : o.guard = none) (s x : Operand) (ho : o.op = .call { callee := .builtin .append, args := #[s, x], argTypes := #[sl, sl] })
    (base g : Nat) (v : Value) (pre : List α) (r : α) (hs : a.eval s = v) (hx : a.eval x = .slice (some ⟨g, 0, none⟩) 1 1) (hown : w.ownsRow base ty m v pre.length (pre.flatMap f)) (hg : w.heap[g]? = some (.cells (f r).toArray ty (0, 0))) (hl : pre.length ≤ 1172812402926) (hbase : base ≤ w.heap.size)
    (h : ∀ v' w', w'.ownsRow base ty m v' (pre ++ [r]).length ((pre ++ [r]).flatMap f) → w.grownBy w' v.ownBlock → wpList Tryd.prog ops Q rest (a.put o.dst v') w') : wpList Tryd.prog ops Q (o :: rest) a w := by
  obtain ⟨i, hi, hz', hsz, hby⟩ := info_parts hinf
  refine wpList_append_own w hgd s x sl ho base ty i _ m by' hu hi hz' hsz hby hzs h0 v pre.length (pre.flatMap f) hs hown ⟨g, 0, none⟩ 1 1 (f r) hx (by rw [hm, Nat.one_mul]) (news_heap hg) (h1 r) (by have := maxLen_ge; omega) ?_ hbase (fun v' w' h1 h2 _ => h v' w' (snocG h1) h2)
  have : (pre.length + 1) * by' ≤ 1172812402927 * 32 := Nat.mul_le_mul (by omega) hb
  omega
theorem cldM {w : World} {b : Nat} {M : Nat} (h : w.heap[b]? = some (.cells (cM M).toArray 35 (0, 0))) : (loadVar 35 ⟨b, 0, none⟩).run Tryd.prog w = .ok (mV M) w := run_loadL (cs := cM M) cisAgg25 csize25 rfl (AtL_heap h)
theorem loM_nn (M : Nat) : 0 ≤ loM M := Int.natCast_nonneg _
theorem hiM_nn (M : Nat) : 0 ≤ hiM M := Int.natCast_nonneg _
set_option maxRecDepth 100000 in
set_option maxHeartbeats 4000000 in
theorem rHas_ok (M n : Nat) (hM : M < 2 ^ 128) (hn : n < 128) (w : World) : Calls Tryd.prog 39 #[mV M, .int .i64 n] w fun e w' => e = .returned (.bool (M.testBit n)) ∧ Below w.heap.size w w' := by
  have hn0 : ¬ ((n : Int) < 0) := by omega
  have hn1 : ¬ (127 : Int) < (n : Int) := by omega
  obtain ⟨a, ha⟩ : ∃ a : Nat, a = M % 2 ^ 64 := ⟨_, rfl⟩
  obtain ⟨b, hb⟩ : ∃ b : Nat, b = M / 2 ^ 64 := ⟨_, rfl⟩
  have ha64 : a < 18446744073709551616 := by rw [ha]; exact Nat.mod_lt _ (by omega)
  have hb64 : b < 18446744073709551616 := by rw [hb]; omega
  have em : mV M = .agg #[.int .u64 (a : Int), .int .u64 (b : Int)] := by rw [ha, hb]; rfl
  rw [em]
  clear em
  obtain ⟨g, hg⟩ : ∃ g, g = w.heap.size := ⟨_, rfl⟩
  have b1 : Below w.heap.size w (w.alloc (.cells #[.int .u64 (a : Int), .int .u64 (b : Int)] 35)) := (Below.refl _ _).alloc (Nat.le_refl _) _
  have k0 : (w.alloc (.cells #[.int .u64 (a : Int), .int .u64 (b : Int)] 35)).heap[g]? = some (.cells #[.int .u64 (a : Int), .int .u64 (b : Int)] 35 (0, 0)) := heap_at hg
  by_cases h64 : n < 64
  · obtain ⟨m, hnm⟩ : ∃ m, n = m := ⟨n, rfl⟩
    have EQ : Hid ((a / 2 ^ m % 2 = 1) = (M.testBit n = true)) := Lib.hid (by have := lo_bit M h64; rw [← ha, hnm] at this; rw [hnm]; exact this)
    have hm64 : m < 64 := by omega
    have gq : wrap64 ((n : Int) / 64) = 0 := by unfold wrap64; omega
    have gq2 : Int.tdiv (n : Int) 64 = 0 := by rw [Int.tdiv_eq_ediv_of_nonneg (by omega)]; omega
    have gm : Int.tmod (n : Int) 64 = m := by rw [Int.tmod_eq_emod_of_nonneg (by omega)]; omega
    have c0 : (w.alloc (.cells #[.int .u64 (a : Int), .int .u64 (b : Int)] 35)).cell? ⟨g, 0, none⟩ = some (.int .u64 (a : Int)) := by rw [cell_of_row _ _ 0 _ _ _ k0]; rfl
    have B1 := Lib.hid b1
    have HNM := Lib.hid hnm
    clear b1 k0 hnm ha hb
    go_enter Tryd.func39, Tryd.ntmps39
    go_wp2_with fail
    rw [← hg]
    clear hg
    generalize (w.alloc (.cells #[.int .u64 (a : Int), .int .u64 (b : Int)] 35)) = wa at *
    clear hn0 hn1 c0 gq gq2
    go_loopw [5, 6] (fun u i wr => ∃ k : Nat, k ≤ m ∧ u = .int .u64 ((a / 2 ^ k : Nat) : Int) ∧ i = .int .i64 k ∧ Hid (Below w.heap.size w wr)) (fun _ i _ => m - (intOf i).toNat)
    case atStart => exact ⟨0, Nat.zero_le _, by rw [Nat.pow_zero, Nat.div_one], rfl, B1⟩
    case round =>
      obtain ⟨k, hk, rfl, rfl, hw⟩ := hrel
      obtain ⟨q, hq⟩ : ∃ q : Nat, q = a / 2 ^ k := ⟨_, rfl⟩
      rw [← hq]
      have HQ := Lib.hid hq
      have hq64 : q < 18446744073709551616 := by rw [hq]; exact Nat.lt_of_le_of_lt (Nat.div_le_self _ _) (by omega)
      by_cases hlt : k < m
      · have hwk1 : IntKind.i64.wrap ((k : Int) + 1) = (k : Int) + 1 := by rw [IntKind.wrap_i64]; omega
        have hkm : (k : Int) < (m : Int) := by omega
        have hd : Int.tdiv (q : Int) 2 = ((q / 2 : Nat) : Int) := by rw [Int.tdiv_eq_ediv_of_nonneg (by omega)]; omega
        have hwu : IntKind.u64.wrap ((q : Int) / 2) = ((q / 2 : Nat) : Int) := by rw [IntKind.wrap_u64]; omega
        clear hq
        go_wp2_with fail
        go_roundw
        case rel => exact ⟨k + 1, by omega, by rw [← half, ← HQ.out]; congr 1, by go_num, hw⟩
        case measure => simp [intOf]; omega
      · have hkm : k = m := by omega
        subst hkm
        have hd : Int.tmod (q : Int) 2 = ((q % 2 : Nat) : Int) := by rw [Int.tmod_eq_emod_of_nonneg (by omega)]; omega
        have hr : q % 2 = 0 ∨ q % 2 = 1 := by omega
        clear hq
        rw [← HQ.out] at EQ
        rcases hr with hr | hr
        · rw [hr] at hd EQ
          have : M.testBit n = false := by
            cases h : M.testBit n with
            | false => rfl
            | true => have := EQ.out; rw [h] at this; exact absurd (this.mpr rfl) (by omega)
          have HT := Lib.hid this
          clear this
          go_wp2_with fail
          go_ret
          exact ⟨by rw [HT.out]; rfl, hw.out⟩
        · rw [hr] at hd EQ
          have : M.testBit n = true := by
            have := EQ.out
            exact this.mp rfl
          have HT := Lib.hid this
          clear this
          go_wp2_with fail
          go_ret
          exact ⟨by rw [HT.out]; rfl, hw.out⟩
  · obtain ⟨m, hnm⟩ : ∃ m, n = 64 + m := ⟨n - 64, by omega⟩
    have EQ : Hid ((b / 2 ^ m % 2 = 1) = (M.testBit n = true)) := Lib.hid (by have := hi_bit M (show 64 ≤ n by omega); rw [← hb, show n - 64 = m by omega] at this; exact this)
    have hm64 : m < 64 := by omega
    have gq : wrap64 ((n : Int) / 64) = 1 := by unfold wrap64; omega
    have gq2 : Int.tdiv (n : Int) 64 = 1 := by rw [Int.tdiv_eq_ediv_of_nonneg (by omega)]; omega
    have gm : Int.tmod (n : Int) 64 = m := by rw [Int.tmod_eq_emod_of_nonneg (by omega)]; omega
    have c0 : (w.alloc (.cells #[.int .u64 (a : Int), .int .u64 (b : Int)] 35)).cell? ⟨g, 1, none⟩ = some (.int .u64 (b : Int)) := by rw [cell_of_row _ _ 1 _ _ _ k0]; rfl
    have B1 := Lib.hid b1
    have HNM := Lib.hid hnm
    clear b1 k0 hnm ha hb
    go_enter Tryd.func39, Tryd.ntmps39
    go_wp2_with fail
    rw [← hg]
    clear hg
    generalize (w.alloc (.cells #[.int .u64 (a : Int), .int .u64 (b : Int)] 35)) = wa at *
    clear hn0 hn1 c0 gq gq2
    go_loopw [5, 6] (fun u i wr => ∃ k : Nat, k ≤ m ∧ u = .int .u64 ((b / 2 ^ k : Nat) : Int) ∧ i = .int .i64 k ∧ Hid (Below w.heap.size w wr)) (fun _ i _ => m - (intOf i).toNat)
    case atStart => exact ⟨0, Nat.zero_le _, by rw [Nat.pow_zero, Nat.div_one], rfl, B1⟩
    case round =>
      obtain ⟨k, hk, rfl, rfl, hw⟩ := hrel
      obtain ⟨q, hq⟩ : ∃ q : Nat, q = b / 2 ^ k := ⟨_, rfl⟩
      rw [← hq]
      have HQ := Lib.hid hq
      have hq64 : q < 18446744073709551616 := by rw [hq]; exact Nat.lt_of_le_of_lt (Nat.div_le_self _ _) (by omega)
      by_cases hlt : k < m
      · have hwk1 : IntKind.i64.wrap ((k : Int) + 1) = (k : Int) + 1 := by rw [IntKind.wrap_i64]; omega
        have hkm : (k : Int) < (m : Int) := by omega
        have hd : Int.tdiv (q : Int) 2 = ((q / 2 : Nat) : Int) := by rw [Int.tdiv_eq_ediv_of_nonneg (by omega)]; omega
        have hwu : IntKind.u64.wrap ((q : Int) / 2) = ((q / 2 : Nat) : Int) := by rw [IntKind.wrap_u64]; omega
        clear hq
        go_wp2_with fail
        go_roundw
        case rel => exact ⟨k + 1, by omega, by rw [← half, ← HQ.out]; congr 1, by go_num, hw⟩
        case measure => simp [intOf]; omega
      · have hkm : k = m := by omega
        subst hkm
        have hd : Int.tmod (q : Int) 2 = ((q % 2 : Nat) : Int) := by rw [Int.tmod_eq_emod_of_nonneg (by omega)]; omega
        have hr : q % 2 = 0 ∨ q % 2 = 1 := by omega
        clear hq
        rw [← HQ.out] at EQ
        rcases hr with hr | hr
        · rw [hr] at hd EQ
          have : M.testBit n = false := by
            cases h : M.testBit n with
            | false => rfl
            | true => have := EQ.out; rw [h] at this; exact absurd (this.mpr rfl) (by omega)
          have HT := Lib.hid this
          clear this
          go_wp2_with fail
          go_ret
          exact ⟨by rw [HT.out]; rfl, hw.out⟩
        · rw [hr] at hd EQ
          have : M.testBit n = true := by
            have := EQ.out
            exact this.mp rfl
          have HT := Lib.hid this
          clear this
          go_wp2_with fail
          go_ret
          exact ⟨by rw [HT.out]; rfl, hw.out⟩

def cN (n : Nat) : List Value := [.int .i64 (n : Int)]
theorem cN_len (n : Nat) : (cN n).length = 1 := rfl
theorem cN_one (n : Nat) : ∀ u ∈ cN n, u.oneCell' = true := by intro u hu; simp [cN] at hu; subst hu; rfl
theorem grown_below' {w w2 : World} {row : Option Nat} {B : Nat} (hg : w.grownBy w2 row) (hB : B ≤ w.heap.size) (hr : ∀ g, row = some g → B ≤ g) : Below B w w2 :=
  ⟨hg.os, hg.tape, hg.output, hg.size, fun k hk => hg.block k (Nat.lt_of_lt_of_le hk hB) fun e => by have := hr k e.symm; omega⟩
theorem app_below {w w5 : World} {B n m : Nat} {ty : TypeId} {v : Value} {xs : List Value} {ob : Obj} (h : w.ownsRow B ty m v n xs) (hB : B ≤ w.heap.size) (hg : (w.alloc ob).grownBy w5 v.ownBlock) : Below B w w5 :=
  ((Below.refl _ _).alloc hB _).trans (grown_below' hg (by simp; omega) fun g e => (h.lt g e).1)
theorem own_small {w : World} {B n m : Nat} {ty : TypeId} {v : Value} {xs : List Value} (h : w.ownsRow B ty m v n xs) : ∃ A c, v = .slice A n c := by
  rcases h.2 with ⟨rfl, h0⟩ | ⟨g, cap, cur, hv, _⟩
  · exact ⟨none, 0, by rw [h0]⟩
  · exact ⟨_, _, hv⟩
theorem alloc_le' {n : Nat} {w : World} {ob : Obj} (h : n ≤ w.heap.size) : n ≤ (w.alloc ob).heap.size := by simp; omega
theorem below_low {w w2 w3 : World} {B : Nat} (hb : Below w2.heap.size w2 w3) (h : B ≤ w.heap.size) (h2 : Below B w w2) : Below B w2 w3 := ⟨hb.os, hb.tape, hb.output, hb.size, fun i hi => hb.block i (Nat.lt_of_lt_of_le hi (Nat.le_trans h h2.size))⟩
def lkM (M k : Nat) : List Nat := (List.range k).filter fun n => M.testBit n
theorem lkM_s (M k : Nat) : lkM M (k + 1) = lkM M k ++ (if M.testBit k = true then [k] else []) := by
  unfold lkM
  rw [List.range_succ, List.filter_append]
  congr 1
  cases h : M.testBit k <;> simp [h]
theorem lkM_len (M k : Nat) : (lkM M k).length ≤ k := by
  unfold lkM
  exact Nat.le_trans (List.length_filter_le ..) (by simp)
set_option maxRecDepth 100000 in
set_option maxHeartbeats 4000000 in
theorem rList_ok (M : Nat) (hM : M < 2 ^ 128) (w : World) : Calls Tryd.prog 19 #[mV M] w fun e w' => (∃ v, e = .returned v ∧ w'.ownsRow w.heap.size 3 1 v (listM M).length ((listM M).flatMap cN)) ∧ Below w.heap.size w w' := by
  have HH := Lib.hid (fun (k : Nat) (hk : k < 128) (w2 : World) => rHas_ok M k hM hk w2)
  clear hM
  unfold mV at HH ⊢
  have b1 : Below w.heap.size w (w.alloc (.cells #[.int .u64 (loM M), .int .u64 (hiM M)] 35)) := (Below.refl _ _).alloc (Nat.le_refl _) _
  have k0 : (w.alloc (.cells #[.int .u64 (loM M), .int .u64 (hiM M)] 35)).heap[w.heap.size]? = some (.cells (cM M).toArray 35 (0, 0)) := heap_at rfl
  have s0 : w.heap.size ≤ (w.alloc (.cells #[.int .u64 (loM M), .int .u64 (hiM M)] 35)).heap.size := by simp
  go_enter Tryd.func19, Tryd.ntmps19
  go_wp2_with fail
  obtain ⟨z, hz⟩ : ∃ z, z = w.heap.size := ⟨_, rfl⟩
  rw [← hz] at k0 ⊢
  have b2 : Below w.heap.size w ((w.alloc (.cells #[.int .u64 (loM M), .int .u64 (hiM M)] 35)).alloc (.cells #[] 3)) := b1.alloc s0 _
  have k2 := heap_keep ((Below.refl _ _).alloc (Nat.le_refl _) (.cells #[] 3)) k0
  have o2 := fresh_row (w.alloc (.cells #[.int .u64 (loM M), .int .u64 (hiM M)] 35)) 3 1 _ (Nat.le_refl _)
  have q2 : (w.alloc (.cells #[.int .u64 (loM M), .int .u64 (hiM M)] 35)).heap.size = z + 1 := by rw [hz]; simp
  rw [q2] at o2
  have s2 : z + 1 ≤ ((w.alloc (.cells #[.int .u64 (loM M), .int .u64 (hiM M)] 35)).alloc (.cells #[] 3)).heap.size := by simp; omega
  generalize ((w.alloc (.cells #[.int .u64 (loM M), .int .u64 (hiM M)] 35)).alloc (.cells #[] 3)) = wa at *
  have B2 := Lib.hid b2
  have K2 := Lib.hid k2
  have O2 := Lib.hid o2
  have S2 := Lib.hid s2
  have HZ := Lib.hid hz
  clear b1 b2 k0 k2 s0 o2 q2 s2 hz
  go_loopw [3, 4] (fun u i wr => ∃ (k : Nat) (o : Value), k ≤ 128 ∧ o = u ∧ i = .int .i64 k ∧ Hid (wr.ownsRow (z + 1) 3 1 o (lkM M k).length ((lkM M k).flatMap cN)) ∧ Hid (Below (z + 1) wa wr)) (fun _ i _ => 128 - (intOf i).toNat)
  case atStart => exact ⟨0, _, Nat.zero_le _, rfl, rfl, O2, Lib.hid (Below.refl _ _)⟩
  case round =>
    obtain ⟨k, o, hk, rfl, rfl, ho, hbw⟩ := hrel
    by_cases hlt : k < 128
    · have hwk1 : IntKind.i64.wrap ((k : Int) + 1) = (k : Int) + 1 := by rw [IntKind.wrap_i64]; omega
      have hk7 : (k : Int) ≤ 127 := by omega
      have KR := Lib.hid ((hbw.out.block z (by omega)).trans K2.out)
      have HK := Lib.hid (HH.out k hlt)
      have HL : Hid ((lkM M k).length ≤ 1172812402926) := Lib.hid (Nat.le_trans (lkM_len M k) (by omega))
      clear hlt
      cases hb : M.testBit k with
      | true =>
        rw [hb] at HK
        have HE : Hid (lkM M (k + 1) = lkM M k ++ [k]) := Lib.hid (by rw [lkM_s, hb]; rfl)
        clear hb
        go_wp2_with (first | (refine wpList_loadL rfl 35 (.tmp 1) rfl z 0 (.agg #[.int .u64 (loM M), .int .u64 (hiM M)]) rfl (cldM KR.out) ?_))
        with_reducible refine (HK.out _).mono ?_
        rintro e w3 ⟨rfl, hb3⟩
        have O3 := Lib.hid (own_below ho.out hb3)
        have B3 := Lib.hid (hbw.out.trans (below_low hb3 S2.out hbw.out))
        have S3 := Lib.hid (Nat.le_trans (Nat.le_trans S2.out hbw.out.size) hb3.size)
        clear hb3 ho hbw KR HK
        go_wp2_with (at_builtin; refine wpList_appG cN 1 22 3 8 cN_len cN_one (by omega) Tryd.underlying22 cinfo3 rfl (by omega) rfl (.tmp 13) (.tmp 15) rfl (z + 1) _ o (lkM M k) k rfl rfl (own_below O3.out ((Below.refl _ _).alloc (Nat.le_refl _) _)) (heap_at rfl) HL.out (alloc_le' S3.out) ?_; intro v5 w5 ho5 hg5; have b5 := app_below O3.out S3.out hg5; have O5 := Lib.hid ho5; have B5 := Lib.hid (B3.out.trans b5); clear ho5 hg5 b5)
        go_roundw
        case rel => exact ⟨k + 1, _, by omega, rfl, by go_num, by rw [HE.out]; exact O5, B5⟩
        case measure => simp [intOf]; omega
      | false =>
        rw [hb] at HK
        have HE : Hid (lkM M (k + 1) = lkM M k) := Lib.hid (by rw [lkM_s, hb]; simp)
        clear hb
        go_wp2_with (first | (refine wpList_loadL rfl 35 (.tmp 1) rfl z 0 (.agg #[.int .u64 (loM M), .int .u64 (hiM M)]) rfl (cldM KR.out) ?_))
        with_reducible refine (HK.out _).mono ?_
        rintro e w3 ⟨rfl, hb3⟩
        have O3 := Lib.hid (own_below ho.out hb3)
        have B3 := Lib.hid (hbw.out.trans (below_low hb3 S2.out hbw.out))
        clear hb3 ho hbw KR HK
        go_wp2_with fail
        go_roundw
        case rel => exact ⟨k + 1, _, by omega, rfl, by go_num, by rw [HE.out]; exact O3, B3⟩
        case measure => simp [intOf]; omega
    · have hk8 : k = 128 := by omega
      have hk9 : ¬ (k : Int) ≤ 127 := by omega
      have hf : Hid (listM M = lkM M k) := Lib.hid (by rw [hk8]; rfl)
      clear hk8 hlt hk
      go_wp2_with fail
      go_ret
      refine ⟨⟨_, rfl, ?_⟩, ?_⟩
      · have hz := HZ.out
        subst hz
        rw [hf.out]
        exact own_lower ho.out (by omega)
      · have hz := HZ.out
        subst hz
        exact B2.out.trans (hbw.out.mono (by omega))
end Go.Proofs.YtjbglifmppilfaaDoor
namespace Go.Proofs.YtjbglifmppilfaaDoor
open Go.ChangeShapes Go.WideShapes Go.ChangeAt Go.RowKit
set_option linter.unusedVariables false
set_option linter.unusedSimpArgs false
attribute [local go_sem] Og.Opt Og.OpY

attribute [local go_sem] Og.Opt Og.OpY
theorem ofM_take {xs : List Nat} {k x : Nat} (h : xs[k]? = some x) : ofM (xs.take (k + 1)) = putM (ofM (xs.take k)) x := by
  unfold ofM
  rw [List.take_add_one, h, List.foldl_append]
  rfl
theorem shl_add {a b n : Nat} (h : a + 2 ^ b = n) (hn : n < 18446744073709551616) : IntKind.u64.wrap ((a : Int) + IntKind.u64.wrap ((2 : Int) ^ b)) = (n : Int) := by
  have e : (2 : Int) ^ b = ((2 ^ b : Nat) : Int) := by simp [Int.natCast_pow]
  rw [e]
  generalize 2 ^ b = q at h
  rw [IntKind.wrap_u64, IntKind.wrap_u64]
  omega
theorem putM_same {M n : Nat} (h : M.testBit n = true) : putM M n = M := by
  apply Nat.eq_of_testBit_eq
  intro k
  rw [putM_bit]
  by_cases e : n = k
  · subst e; simp [h]
  · simp [e]
theorem results_cell_tmp1' {fn : Func} {p u : Tmp} {ty : TypeId} {tmps : Array Value} {P : Program} {w : World} {a : Addr} {v : Value} (h : fn.results = #[.cell p ty, .tmp u]) (ha : tmps.getD p undef = .pointer (some a)) (hr : (loadVar ty a).run P w = .ok v w) :
    (results fn tmps).run P w = .ok (.tuple #[v, tmps.getD u undef]) w := by
  have e : (asAddr (.pointer (some a))).run P w = .ok a w := rfl
  rw [results_cell_tmp h, ha, e]
  simp only [Result.andThen_ok, hr]
set_option maxRecDepth 100000 in
set_option maxHeartbeats 4000000 in
theorem rOf_ok (xs : List Nat) (v : Value) (w : World) (hs : Sl cN 1 0 w v xs) (hx : ∀ x ∈ xs, x < 128) (hl : xs.length ≤ 100000) :
    Calls Tryd.prog 20 #[v] w fun e w' => e = .returned (.tuple #[mV (ofM xs), .int .i64 0]) ∧ Below w.heap.size w w' := by
  obtain ⟨A, c, rfl, hr, -⟩ := hs
  obtain ⟨n, hn⟩ : ∃ n, n = xs.length := ⟨_, rfl⟩
  rw [← hn]
  have HN := Lib.hid hn
  have HR := Lib.hid hr
  have HX := Lib.hid hx
  have hl' : n ≤ 100000 := by omega
  obtain ⟨z, hz⟩ : ∃ z, z = w.heap.size := ⟨_, rfl⟩
  have b2 : Below w.heap.size w ((w.alloc (.cells #[.int .u64 0, .int .u64 0] 35)).alloc (.cells #[.int .u64 0, .int .u64 0] 35)) := ((Below.refl _ _).alloc (Nat.le_refl _) _).alloc (by simp) _
  have k1 : ((w.alloc (.cells #[.int .u64 0, .int .u64 0] 35)).alloc (.cells #[.int .u64 0, .int .u64 0] 35)).heap[z]? = some (.cells #[.int .u64 0, .int .u64 0] 35 (0, 0)) := heap_keep ((Below.refl _ _).alloc (Nat.le_refl _) _) (heap_at hz)
  have k2 : ((w.alloc (.cells #[.int .u64 0, .int .u64 0] 35)).alloc (.cells #[.int .u64 0, .int .u64 0] 35)).heap[z + 1]? = some (.cells #[.int .u64 0, .int .u64 0] 35 (0, 0)) := heap_at (by rw [hz]; simp)
  clear hn hr hx hl
  go_enter Tryd.func20, Tryd.ntmps20
  go_wp2_with fail
  rw [← hz]
  generalize ((w.alloc (.cells #[.int .u64 0, .int .u64 0] 35)).alloc (.cells #[.int .u64 0, .int .u64 0] 35)) = wa at *
  have B2 := Lib.hid b2
  have K1 := Lib.hid k1
  have K2 := Lib.hid k2
  have HZ := Lib.hid hz
  clear b2 k1 k2 hz
  go_loopw [5] (fun i wr => ∃ k : Nat, k ≤ n ∧ i = .int .i64 k ∧ Hid (Below w.heap.size w wr) ∧ Hid (wr.heap[z]? = some (.cells #[.int .u64 0, .int .u64 0] 35 (0, 0))) ∧ Hid (wr.heap[z + 1]? = some (.cells (cM (ofM (xs.take k))).toArray 35 (0, 0)))) (fun i _ => n - (intOf i).toNat)
  case atStart => exact ⟨0, Nat.zero_le _, rfl, B2, K1, Lib.hid (by have e : cM (ofM (xs.take 0)) = [.int .u64 0, .int .u64 0] := (by simp [cM, ofM, loM, hiM]); rw [e]; exact K2.out)⟩
  case round =>
    clear B2 K1 K2
    obtain ⟨k, hk, rfl, hb, k1, k2⟩ := hrel
    by_cases hlt : k < n
    · have hwk1 : IntKind.i64.wrap ((k : Int) + 1) = (k : Int) + 1 := by rw [IntKind.wrap_i64]; omega
      have hk0 : (0 : Int) ≤ (k : Int) := by omega
      have hkn : (k : Int) < (n : Int) := by omega
      obtain ⟨x, hxk⟩ : ∃ x, xs[k]? = some x := ⟨_, List.getElem?_eq_getElem (by rw [← HN.out]; exact hlt)⟩
      obtain ⟨b0, o0, rfl, hat⟩ := HR.out k x hxk
      have hx8 := HX.out x (List.mem_of_getElem? hxk)
      have q0 : w.cell? ⟨b0, o0 + k, none⟩ = some (.int .i64 (x : Int)) := by
        have := hat 0 (.int .i64 (x : Int)) rfl
        rwa [Nat.add_zero, Nat.mul_one] at this
      have q1 := bcell hb.out q0
      have hx0 : ¬ (x : Int) < 0 := by omega
      have hx1 : ¬ (127 : Int) < (x : Int) := by omega
      have HE := Lib.hid (ofM_take hxk)
      obtain ⟨M, hM⟩ : ∃ M, M = ofM (xs.take k) := ⟨_, rfl⟩
      have hM8 : M < 2 ^ 128 := by rw [hM]; exact ofM_lt fun y hy => HX.out y (List.mem_of_mem_take hy)
      rw [← hM] at HE k2
      have HH := Lib.hid (fun w2 => rHas_ok M x hM8 hx8 w2)
      have X8 := Lib.hid hx8
      have M8 := Lib.hid hM8
      have HC : ∀ w5, Below wr.heap.size wr w5 → w5.cell? ⟨b0, o0 + k, none⟩ = some (.int .i64 (x : Int)) := fun w5 h5 => bcell h5 q1
      have HLD : Hid (∀ w5, Below wr.heap.size wr w5 → (loadVar 35 ⟨z + 1, 0, none⟩).run Tryd.prog w5 = .ok (mV M) w5) := Lib.hid fun w5 h5 => cldM (heap_keep h5 k2.out)
      unfold mV at HH HLD
      clear hxk hat hx8 hM hM8 q0
      go_wp2_with fail
      clear q1
      refine Og.walk_lit [[],[],[],[1,2],[3,1,2],[0,4,3,1,2],[5,0,4,3,1,2]] (fun w2 => Below wr.heap.size wr w2) (fun w1 w2 => Below w1.heap.size w1 w2) (by kernel_rfl) (by kernel_rfl) (bdrew) ?_
      refine Og.step_pure (fun _ => Below.refl _ _) ?_; apply Exists.intro; refine And.intro ?_ ?_; focus (intro vs w2 hC hk; have hl := HLD.out w2 hC; refine Og.OptB.out ?_; revert hk; simp only [Og.KS, Og.K0, Og.Is, List.getD_cons_zero, List.getD_cons_succ, List.getD_nil, List.contains_cons, List.contains_nil, Nat.reduceAdd, Nat.reduceBEq, Bool.or_false, Bool.false_or, Bool.or_true, Bool.true_or, Bool.false_eq_true, false_implies, true_implies, true_and, and_true, forall_const]; intros; exact optB_loadL (by go_simp) rfl (by go_simp) hl ⟨rfl, rfl⟩)
      iterate 3 (refine Og.step_pure (fun _ => Below.refl _ _) ?_; apply Exists.intro; refine And.intro ?_ ?_; focus (intro vs w2 hC hk; revert hk; simp only [Og.KS, Og.K0, Og.Is, List.getD_cons_zero, List.getD_cons_succ, List.getD_nil, List.contains_cons, List.contains_nil, Nat.reduceAdd, Nat.reduceBEq, Bool.or_false, Bool.false_or, Bool.or_true, Bool.true_or, Bool.false_eq_true, false_implies, true_implies, true_and, and_true, forall_const]; intros; go_simp; rfl))
      refine Og.step_pure (fun _ => Below.refl _ _) ?_; apply Exists.intro; refine And.intro ?_ ?_; focus (intro vs w2 hC hk; have hm := HC w2 hC; revert hk; simp only [Og.KS, Og.K0, Og.Is, List.getD_cons_zero, List.getD_cons_succ, List.getD_nil, List.contains_cons, List.contains_nil, Nat.reduceAdd, Nat.reduceBEq, Bool.or_false, Bool.false_or, Bool.or_true, Bool.true_or, Bool.false_eq_true, false_implies, true_implies, true_and, and_true, forall_const]; intros; go_simp; rfl)
      refine Og.step_one ?_; apply Exists.intro; refine And.intro ?_ ?_; focus (intro vs w2 hC hk; revert hk; simp only [Og.KS, Og.K0, Og.Is, List.getD_cons_zero, List.getD_cons_succ, List.getD_nil, List.contains_cons, List.contains_nil, Nat.reduceAdd, Nat.reduceBEq, Bool.or_false, Bool.false_or, Bool.or_true, Bool.true_or, Bool.false_eq_true, false_implies, true_implies, true_and, and_true, forall_const]; intros; go_simp; with_reducible refine (HH.out _).mono ?_; rintro e w3 ⟨rfl, hb⟩; exact Og.RetV.mk ⟨bthen hC hb, hb, rfl⟩)
      refine Og.step_pure (fun _ => Below.refl _ _) ?_; apply Exists.intro; refine And.intro ?_ ?_; focus (intro vs w2 hC hk; revert hk; simp only [Og.KS, Og.K0, Og.Is, List.getD_cons_zero, List.getD_cons_succ, List.getD_nil, List.contains_cons, List.contains_nil, Nat.reduceAdd, Nat.reduceBEq, Bool.or_false, Bool.false_or, Bool.or_true, Bool.true_or, Bool.false_eq_true, false_implies, true_implies, true_and, and_true, forall_const]; intros; go_simp; rfl)
      intro vs wb hC hk
      have hm := HC wb hC
      simp only [Og.KS, Og.K0, Og.Is, List.getD_cons_zero, List.getD_cons_succ, List.getD_nil, List.contains_cons, List.contains_nil, Nat.reduceAdd, Nat.reduceBEq, Bool.or_false, Bool.false_or, Bool.or_true, Bool.true_or, Bool.false_eq_true, false_implies, true_implies, true_and, and_true, forall_const] at hk
      simp only [hk, Act.put, List.setIfInBounds_toArray, List.set_cons_zero, List.set_cons_succ]
      clear hk
      have B5 := Lib.hid (bthen hb.out hC)
      have K15 := Lib.hid (heap_keep hC k1.out)
      have K25 := Lib.hid (heap_keep hC k2.out)
      have q2 := HC wb hC
      clear hC HC HLD HH k1 k2 hb hm
      cases hbt : M.testBit x with
      | true =>
        have HM := Lib.hid (putM_same hbt)
        clear hbt q2
        go_wp2_with fail
        go_roundw
        case rel => exact ⟨k + 1, by omega, by go_num, B5, K15, by rw [HE.out, HM.out]; exact K25⟩
        case measure => simp [intOf]; omega
      | false =>
        obtain ⟨lo, hlo⟩ : ∃ lo : Nat, lo = M % 2 ^ 64 := ⟨_, rfl⟩
        obtain ⟨hi, hhi⟩ : ∃ hi : Nat, hi = M / 2 ^ 64 := ⟨_, rfl⟩
        have ec : (cM M).toArray = #[.int .u64 (lo : Int), .int .u64 (hi : Int)] := by rw [hlo, hhi]; rfl
        rw [ec] at K25
        have c0 : wb.cell? ⟨z + 1, 0, none⟩ = some (.int .u64 (lo : Int)) := by rw [cell_of_row wb _ 0 _ _ _ K25.out]; rfl
        have c1 : wb.cell? ⟨z + 1, 1, none⟩ = some (.int .u64 (hi : Int)) := by rw [cell_of_row wb _ 1 _ _ _ K25.out]; rfl
        have HC : ∀ w5, Below wb.heap.size wb w5 → w5.cell? ⟨b0, o0 + k, none⟩ = some (.int .i64 (x : Int)) ∧ w5.cell? ⟨z + 1, 0, none⟩ = some (.int .u64 (lo : Int)) ∧ w5.cell? ⟨z + 1, 1, none⟩ = some (.int .u64 (hi : Int)) := fun w5 h5 => ⟨bcell h5 q2, bcell h5 c0, bcell h5 c1⟩
        have hlo64 : lo < 18446744073709551616 := by rw [hlo]; exact Nat.mod_lt _ (by omega)
        have hhi64 : hi < 18446744073709551616 := by have := M8.out; rw [hhi]; omega
        clear q2 c0 c1
        by_cases h64 : x < 64
        · have gq : IntKind.i64.wrap ((x : Int) / 64) = 0 := by rw [show (x : Int) / 64 = 0 by omega]; rfl
          have gq2 : Int.tdiv (x : Int) 64 = 0 := by rw [Int.tdiv_eq_ediv_of_nonneg (by omega)]; omega
          have gm : Int.tmod (x : Int) 64 = x := by rw [Int.tmod_eq_emod_of_nonneg (by omega)]; omega
          have gw : IntKind.i64.wrap (x : Int) = x := wrapk (by omega)
          have gn : (0 : Int) ≤ (x : Int) := by omega
          have gz : IntKind.i64.wrap 0 = 0 := rfl
          have gmin : min x 64 = x := by omega
          have HP := Lib.hid (put_lo hbt h64)
          rw [← hlo, ← hhi] at HP
          clear hlo hhi ec hbt
          go_wp2_with fail
          refine Og.Tail.walk_lit 14 [[],[],[0,1],[2,0,1],[3,2,0,1],[4,3,2,0,1],[5,4,3,2,0,1],[],[],[7,8],[9,7,8],[10,9,7,8],[11,10,9,7,8],[6,12,5,4,3,2,0,1,11,10,9,7,8],[4,0,1,2,3,5,6,7,8,9,10,11,12,13],[14,13,0,1,2,3,4,5,6,7,8,9,10,11,12]] (fun w2 => Below wb.heap.size wb w2) (fun w1 w2 => Below w1.heap.size w1 w2) (by kernel_rfl) (by kernel_rfl) (by kernel_rfl) (bdrew) ?_
          simp only [List.take_succ_cons, List.take_zero, List.drop_succ_cons, List.drop_zero]
          repeat (first | (refine Og.step_pure (fun _ => Below.refl _ _) ?_; apply Exists.intro; refine And.intro ?_ ?_; focus (intro vs w2 hC hk; have hm := HC w2 hC; revert hk; simp only [Og.KS, Og.K0, Og.Is, List.getD_cons_zero, List.getD_cons_succ, List.getD_nil, List.contains_cons, List.contains_nil, Nat.reduceAdd, Nat.reduceBEq, Bool.or_false, Bool.false_or, Bool.or_true, Bool.true_or, Bool.false_eq_true, false_implies, true_implies, true_and, and_true, forall_const]; intros; go_simp; rfl)))
          intro vs w3 hC hk
          have hm := HC w3 hC
          simp only [Og.KS, Og.K0, Og.Is, List.getD_cons_zero, List.getD_cons_succ, List.getD_nil, List.contains_cons, List.contains_nil, Nat.reduceAdd, Nat.reduceBEq, Bool.or_false, Bool.false_or, Bool.or_true, Bool.true_or, Bool.false_eq_true, false_implies, true_implies, true_and, and_true, forall_const] at hk
          simp only [hk, Act.put, List.setIfInBounds_toArray, List.set_cons_zero, List.set_cons_succ]
          clear hk
          have B6 := Lib.hid (bthen B5.out hC)
          have K16 := Lib.hid (heap_keep hC K15.out)
          have K26 := Lib.hid (heap_keep hC K25.out)
          have fz : w3.frozen? ⟨z + 1, 0, none⟩ = false := by simp [World.frozen?, K26.out]
          obtain ⟨q0, q1, q2⟩ := hm
          clear hC HC B5 K15 K25
          go_wp2_with fail
          go_roundw
          case rel =>
            have hv := shl_add HP.out.1 (Nat.mod_lt _ (by omega))
            rw [setCell_eq_setRow w3 (z + 1) 0 _ 35 (0, 0) _ K26.out, hv]
            have hH := setRow_heap w3 (z + 1) _ (#[.int .u64 (lo : Int), .int .u64 (hi : Int)].setIfInBounds 0 (.int .u64 ((putM M x % 2 ^ 64 : Nat) : Int))) 35 (0, 0) K26.out
            refine ⟨k + 1, by omega, by go_num, Lib.hid ?_, Lib.hid ?_, Lib.hid ?_⟩
            · exact B6.out.trans ⟨rfl, rfl, rfl, by simp [World.setRow], fun j hj => setRow_other w3 (z + 1) j _ (by have := HZ.out; omega)⟩
            · rw [setRow_other w3 (z + 1) z _ (by omega)]
              exact K16.out
            · rw [HE.out]
              have e : (cM (putM M x)).toArray = #[.int .u64 (lo : Int), .int .u64 (hi : Int)].setIfInBounds 0 (.int .u64 ((putM M x % 2 ^ 64 : Nat) : Int)) := by
                rw [HP.out.2]; rfl
              rw [e]
              exact hH
          case measure => simp [intOf]; omega
        · obtain ⟨m, hxm⟩ : ∃ m, x = 64 + m := ⟨x - 64, by omega⟩
          have hm64 : m < 64 := by have := X8.out; omega
          have gq : IntKind.i64.wrap ((x : Int) / 64) = 1 := by rw [show (x : Int) / 64 = 1 by omega]; rfl
          have gq2 : Int.tdiv (x : Int) 64 = 1 := by rw [Int.tdiv_eq_ediv_of_nonneg (by omega)]; omega
          have gm : Int.tmod (x : Int) 64 = m := by rw [Int.tmod_eq_emod_of_nonneg (by omega)]; omega
          have gw : IntKind.i64.wrap (m : Int) = m := wrapk (by omega)
          have gn : (0 : Int) ≤ (m : Int) := by omega
          have gz : IntKind.i64.wrap 1 = 1 := rfl
          have gmin : min m 64 = m := by omega
          have HP := Lib.hid (put_hi hbt (show 64 ≤ x by omega))
          rw [← hlo, ← hhi, show x - 64 = m by omega] at HP
          have M28 : Hid (putM M x / 2 ^ 64 < 18446744073709551616) := Lib.hid (by have := putM_lt M8.out X8.out; omega)
          clear hlo hhi ec hbt hxm
          go_wp2_with fail
          refine Og.Tail.walk_lit 14 [[],[],[0,1],[2,0,1],[3,2,0,1],[4,3,2,0,1],[5,4,3,2,0,1],[],[],[7,8],[9,7,8],[10,9,7,8],[11,10,9,7,8],[6,12,5,4,3,2,0,1,11,10,9,7,8],[4,0,1,2,3,5,6,7,8,9,10,11,12,13],[14,13,0,1,2,3,4,5,6,7,8,9,10,11,12]] (fun w2 => Below wb.heap.size wb w2) (fun w1 w2 => Below w1.heap.size w1 w2) (by kernel_rfl) (by kernel_rfl) (by kernel_rfl) (bdrew) ?_
          simp only [List.take_succ_cons, List.take_zero, List.drop_succ_cons, List.drop_zero]
          repeat (first | (refine Og.step_pure (fun _ => Below.refl _ _) ?_; apply Exists.intro; refine And.intro ?_ ?_; focus (intro vs w2 hC hk; have hm := HC w2 hC; revert hk; simp only [Og.KS, Og.K0, Og.Is, List.getD_cons_zero, List.getD_cons_succ, List.getD_nil, List.contains_cons, List.contains_nil, Nat.reduceAdd, Nat.reduceBEq, Bool.or_false, Bool.false_or, Bool.or_true, Bool.true_or, Bool.false_eq_true, false_implies, true_implies, true_and, and_true, forall_const]; intros; go_simp; rfl)))
          intro vs w3 hC hk
          have hm := HC w3 hC
          simp only [Og.KS, Og.K0, Og.Is, List.getD_cons_zero, List.getD_cons_succ, List.getD_nil, List.contains_cons, List.contains_nil, Nat.reduceAdd, Nat.reduceBEq, Bool.or_false, Bool.false_or, Bool.or_true, Bool.true_or, Bool.false_eq_true, false_implies, true_implies, true_and, and_true, forall_const] at hk
          simp only [hk, Act.put, List.setIfInBounds_toArray, List.set_cons_zero, List.set_cons_succ]
          clear hk
          have B6 := Lib.hid (bthen B5.out hC)
          have K16 := Lib.hid (heap_keep hC K15.out)
          have K26 := Lib.hid (heap_keep hC K25.out)
          have fz : w3.frozen? ⟨z + 1, 1, none⟩ = false := by simp [World.frozen?, K26.out]
          obtain ⟨q0, q1, q2⟩ := hm
          clear hC HC B5 K15 K25
          go_wp2_with fail
          go_roundw
          case rel =>
            have hv := shl_add HP.out.1 M28.out
            rw [setCell_eq_setRow w3 (z + 1) 1 _ 35 (0, 0) _ K26.out, hv]
            have hH := setRow_heap w3 (z + 1) _ (#[.int .u64 (lo : Int), .int .u64 (hi : Int)].setIfInBounds 1 (.int .u64 ((putM M x / 2 ^ 64 : Nat) : Int))) 35 (0, 0) K26.out
            refine ⟨k + 1, by omega, by go_num, Lib.hid ?_, Lib.hid ?_, Lib.hid ?_⟩
            · exact B6.out.trans ⟨rfl, rfl, rfl, by simp [World.setRow], fun j hj => setRow_other w3 (z + 1) j _ (by have := HZ.out; omega)⟩
            · rw [setRow_other w3 (z + 1) z _ (by omega)]
              exact K16.out
            · rw [HE.out]
              have e : (cM (putM M x)).toArray = #[.int .u64 (lo : Int), .int .u64 (hi : Int)].setIfInBounds 1 (.int .u64 ((putM M x / 2 ^ 64 : Nat) : Int)) := by
                rw [HP.out.2]; rfl
              rw [e]
              exact hH
          case measure => simp [intOf]; omega
    · have hkn : k = n := by omega
      have hkf : ¬ (k : Int) < (n : Int) := by omega
      have HF : Hid (ofM xs = ofM (xs.take k)) := Lib.hid (by rw [List.take_of_length_le (by rw [hkn]; exact Nat.le_of_eq HN.out.symm)])
      clear hkn hlt
      go_wp2_with (first | (refine wpList_loadL rfl 35 (.tmp 4) rfl (z + 1) 0 (.agg (cM (ofM (xs.take k))).toArray) rfl (cldM k2.out) ?_) | (refine wpList_storeN rfl 35 (.tmp 2) (.tmp 47) rfl rfl z (cM (ofM (xs.take k))).toArray rfl rfl 35 _ k1.out cinfo25s rfl (by simp [Value.oneCell', cM]) ?_; intro w9 hz9 hb9 hn9 hs9; have Z9 := Lib.hid hz9; have D9 := Lib.hid (hb.out.trans (hb9 _ (by have := HZ.out; omega))); clear hz9 hb9 hn9 hs9))
      refine bodyPost_ret (results_cell_tmp1' rfl rfl (cldM Z9.out)) rfl ?_
      exact ⟨by rw [HF.out]; rfl, D9.out⟩

end Go.Proofs.YtjbglifmppilfaaDoor
