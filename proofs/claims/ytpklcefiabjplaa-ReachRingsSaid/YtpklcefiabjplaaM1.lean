/- Rings: distances grow with the links' cost; plain; conditions as stated. -/
import Derived.Test.YtpklcefiabjplaaT12
import Derived.Test.YtpklcefiabjplaaS5
namespace Go.Proofs.Ytpklcefiabjplaa
set_option linter.unusedVariables false
def phi (c x : Int) : Int := if x = 1073741824 then 1073741824 else c * x
def sL (c : Int) (ds : List Int) : List Int := ds.map (phi c)
def scK (c : Int) (l : Lk) : Lk := ⟨l.f, l.t, c * l.c, l.d⟩
def scE (c : Int) (e : En) : En := ⟨c * e.k, e.n⟩
def scH (c : Int) (s : Hs) : Hs := ⟨s.es.map (scE c), s.tb⟩
def scT (c : Int) (s : Ts) : Ts := ⟨scH c s.hs, sL c s.ds⟩
/-- far, or a small number -/
def fnB (B : Nat) (x : Int) : Prop := x = 1073741824 ∨ (0 ≤ x ∧ x ≤ B)
theorem swapP_sc {c : Int} (s : Hs) (i j : Nat) : swapP (scH c s) i j = (swapP s i j).map (scH c) := by
  unfold swapP scH
  simp only [List.getElem?_map]
  cases s.es[i]? with
  | none => rfl
  | some x =>
    cases s.es[j]? with
    | none => rfl
    | some y =>
      simp only [Option.map_some]
      have e1 : (scE c x).n = x.n := rfl
      have e2 : (scE c y).n = y.n := rfl
      rw [e1, e2]
      split
      · simp [List.map_set]
      · rfl
theorem phi_small {c x : Int} (h0 : 0 ≤ x) (h1 : x ≤ 2001) : phi c x = c * x := by unfold phi; rw [if_neg (by omega)]
section
variable {c : Int} (hc : 1 ≤ c)
include hc
theorem bef_sc (x y : En) : bef (scE c x) (scE c y) = bef x y := by
  unfold bef scE
  simp only [Int.mul_lt_mul_left (show 0 < c by omega), Int.mul_eq_mul_left_iff (show c ≠ 0 by omega)]
theorem upP_sc : ∀ (f : Nat) (s : Hs) (i : Nat), upP f (scH c s) i = (upP f s i).map (scH c)
  | 0, s, i => rfl
  | f + 1, s, i => by
    rw [upP, upP]
    by_cases h0 : i = 0
    · rw [if_pos h0, if_pos h0]; rfl
    · rw [if_neg h0, if_neg h0]
      have e : ∀ k : Nat, (scH c s).es[k]? = (s.es[k]?).map (scE c) := fun k => by simp [scH]
      rw [e, e]
      cases s.es[i]? with
      | none => rfl
      | some x =>
        cases s.es[(i - 1) / 2]? with
        | none => rfl
        | some y =>
          simp only [Option.map_some]
          rw [bef_sc hc]
          split
          · rw [swapP_sc]
            cases swapP s i ((i - 1) / 2) with
            | none => rfl
            | some s' => exact upP_sc f s' _
          · rfl
theorem kidP_sc (es : List En) (k : Nat) : kidP (es.map (scE c)) k = kidP es k := by
  unfold kidP
  rw [List.length_map]
  split
  · simp only [List.getElem?_map]
    cases es[k + 1]? with
    | none => rfl
    | some x =>
      cases es[k]? with
      | none => rfl
      | some y =>
        simp only [Option.map_some]
        rw [bef_sc hc]
  · rfl
theorem downP_sc : ∀ (f : Nat) (s : Hs) (i : Nat), downP f (scH c s) i = (downP f s i).map (scH c)
  | 0, s, i => rfl
  | f + 1, s, i => by
    rw [downP, downP]
    have el : (scH c s).es.length = s.es.length := by simp [scH]
    rw [el]
    by_cases h0 : s.es.length ≤ 2 * i + 1
    · rw [if_pos h0, if_pos h0]; rfl
    · rw [if_neg h0, if_neg h0]
      have ek : kidP (scH c s).es (2 * i + 1) = kidP s.es (2 * i + 1) := kidP_sc hc _ _
      rw [ek]
      cases kidP s.es (2 * i + 1) with
      | none => rfl
      | some k =>
        simp only [Option.bind_some]
        have e : ∀ k : Nat, (scH c s).es[k]? = (s.es[k]?).map (scE c) := fun k => by simp [scH]
        rw [e, e]
        cases s.es[k]? with
        | none => rfl
        | some x =>
          cases s.es[i]? with
          | none => rfl
          | some y =>
            simp only [Option.map_some]
            rw [bef_sc hc]
            split
            · rw [swapP_sc]
              cases swapP s i k with
              | none => rfl
              | some s' => exact downP_sc f s' _
            · rfl
theorem pushP_sc (s : Hs) (n k : Int) : pushP (scH c s) n (c * k) = (pushP s n k).map (scH c) := by
  unfold pushP
  have el : (scH c s).es.length = s.es.length := by simp [scH]
  have et : (scH c s).tb = s.tb := rfl
  rw [el, et]
  split
  · rw [← upP_sc hc]
    simp [scH, scE]
  · rfl
theorem lowerP_sc (s : Hs) (n k : Int) : lowerP (scH c s) n (c * k) = (lowerP s n k).map (scH c) := by
  unfold lowerP
  have el : (scH c s).es.length = s.es.length := by simp [scH]
  have et : (scH c s).tb = s.tb := rfl
  rw [et]
  split
  · cases s.tb[n.toNat]? with
    | none => rfl
    | some z =>
      simp only []
      have e : (scH c s).es[(z - 1).toNat]? = (s.es[(z - 1).toNat]?).map (scE c) := by simp [scH]
      rw [e]
      cases s.es[(z - 1).toNat]? with
      | none => rfl
      | some x =>
        simp only [Option.map_some]
        have e1 : (scE c x).k = c * x.k := rfl
        have e2 : (scE c x).n = x.n := rfl
        rw [el, e1, e2]
        have hm : (c * k < c * x.k) ↔ k < x.k := Int.mul_lt_mul_left (show 0 < c by omega)
        by_cases hp : 1 ≤ z ∧ k < x.k ∧ s.es.length < 1000
        · rw [if_pos hp, if_pos ⟨hp.1, hm.2 hp.2.1, hp.2.2⟩, ← upP_sc hc]
          simp [scH, scE, List.map_set]
        · rw [if_neg hp, if_neg (fun h => hp ⟨h.1, hm.1 h.2.1, h.2.2⟩)]
          rfl
  · rfl
theorem popP_sc (s : Hs) : popP (scH c s) = (popP s).map fun r => (scE c r.1, scH c r.2) := by
  unfold popP
  have el : (scH c s).es.length = s.es.length := by simp [scH]
  have e : (scH c s).es[0]? = (s.es[0]?).map (scE c) := by simp [scH]
  rw [e, el]
  cases s.es[0]? with
  | none => rfl
  | some x =>
    simp only [Option.map_some]
    have e2 : (scE c x).n = x.n := rfl
    rw [e2]
    split
    · rw [swapP_sc]
      cases swapP s 0 (s.es.length - 1) with
      | none => rfl
      | some s1 =>
        simp only [Option.map_some, Option.bind_some]
        split
        · have e3 : (⟨(scH c s1).es.take (s.es.length - 1), (scH c s1).tb.set x.n.toNat 0⟩ : Hs) = scH c ⟨s1.es.take (s.es.length - 1), s1.tb.set x.n.toNat 0⟩ := by simp [scH, List.map_take]
          rw [e3, downP_sc hc]
          cases downP 200 ⟨s1.es.take (s.es.length - 1), s1.tb.set x.n.toNat 0⟩ 0 <;> rfl
        · simp [scH, List.map_take]
    · rfl
theorem mulb {x : Int} (h0 : 0 ≤ x) (h1 : x ≤ 2001) (hc5 : c ≤ 500) : 0 ≤ c * x ∧ c * x ≤ 1000500 := by
  refine ⟨Int.mul_nonneg (by omega) h0, ?_⟩
  calc c * x ≤ 500 * x := Int.mul_le_mul_of_nonneg_right hc5 h0
    _ ≤ 1000500 := by omega
end
theorem phi_inf (c : Int) : phi c 1073741824 = 1073741824 := by unfold phi; rw [if_pos rfl]
theorem phi_zero (c : Int) : phi c 0 = 0 := by unfold phi; rw [if_neg (by omega), Int.mul_zero]
theorem sL_getD (c : Int) (ds : List Int) (i : Nat) : (sL c ds).getD i 0 = phi c (ds.getD i 0) := by
  unfold sL
  rw [List.getD_eq_getElem?_getD, List.getD_eq_getElem?_getD, List.getElem?_map]
  cases ds[i]? with
  | none => simp [phi_zero]
  | some x => rfl
theorem sL_set (c : Int) (ds : List Int) (i : Nat) {x y : Int} (h : y = phi c x) : (sL c ds).set i y = sL c (ds.set i x) := by
  unfold sL
  rw [List.map_set, h]
theorem fnB_mono {B B' : Nat} {x : Int} (h : fnB B x) (hB : B ≤ B') : fnB B' x := by
  unfold fnB at h ⊢
  omega
theorem fnB_getD {B : Nat} {ds : List Int} (h : ∀ x ∈ ds, fnB B x) (i : Nat) : fnB B (ds.getD i 0) := by
  rw [List.getD_eq_getElem?_getD]
  cases e : ds[i]? with
  | none => exact .inr ⟨Int.le_refl _, by simp⟩
  | some x => exact h x (List.mem_of_getElem? e)
theorem fnB_set {B : Nat} {ds : List Int} {i : Nat} {x : Int} (h : ∀ x ∈ ds, fnB B x) (hx : fnB B x) : ∀ y ∈ ds.set i x, fnB B y := by
  intro y hy
  rcases List.mem_or_eq_of_mem_set hy with h1 | h1
  · exact h y h1
  · rw [h1]; exact hx
/-- one turn of a link in the search -/
theorem relaxP_sc {c : Int} (hc : 1 ≤ c) (hc5 : c ≤ 500) (s : Ts) (d : Int) (l : Lk) (hd0 : 0 ≤ d) (hd1 : d ≤ 1000) (hl : l.c = 1) (hf : ∀ x ∈ s.ds, fnB 1001 x) :
    relaxP (scT c s) (c * d) (scK c l) = (relaxP s d l).map (scT c) ∧ ∀ s', relaxP s d l = some s' → ∀ x ∈ s'.ds, fnB 1001 x := by
  have hb := mulb hc hd0 (by omega) hc5
  have hb1 := mulb hc (x := d + 1) (by omega) (by omega) hc5
  have e1 : dsum d l.c = d + 1 := by unfold dsum clp; rw [hl]; omega
  have e2 : dsum (c * d) (scK c l).c = c * (d + 1) := by
    have : (scK c l).c = c := by simp [scK, hl]
    rw [this]
    unfold dsum clp
    rw [Int.mul_add, Int.mul_one] at *
    omega
  have et : (scK c l).t = l.t := rfl
  have ep : phi c (d + 1) = c * (d + 1) := phi_small (by omega) (by omega)
  unfold relaxP
  rw [e1, e2, et]
  by_cases ho : oks l.t = true
  · rw [if_pos ho, if_pos ho]
    have ed : (scT c s).ds[l.t.toNat]? = (s.ds[l.t.toNat]?).map (phi c) := by simp [scT, sL]
    rw [ed]
    cases hold : s.ds[l.t.toNat]? with
    | none => exact ⟨rfl, fun s' h => by cases h⟩
    | some old =>
      have hfo := hf old (List.mem_of_getElem? hold)
      simp only [Option.map_some]
      have eh : (scT c s).hs = scH c s.hs := rfl
      have es : (scT c s).ds = sL c s.ds := rfl
      rw [eh, es]
      by_cases hi : old = infZ
      · have hp : phi c old = infZ := by rw [hi]; exact phi_inf c
        rw [if_pos hi, if_pos hp, hp, hi, pushP_sc hc, if_pos (show d + 1 < infZ by unfold infZ; omega), if_pos (show c * (d + 1) < infZ by unfold infZ; omega)]
        refine ⟨?_, fun s' h => ?_⟩
        · cases pushP s.hs l.t (d + 1) with
          | none => rfl
          | some h => simp only [Option.map_some, scT]; rw [sL_set c s.ds _ ep.symm]
        · obtain ⟨h', -, rfl⟩ := Option.map_eq_some_iff.1 h
          exact fnB_set hf (.inr ⟨by omega, by omega⟩)
      · have hfo' : 0 ≤ old ∧ old ≤ 1001 := by
          rcases hfo with h | h
          · exact absurd h hi
          · exact ⟨h.1, h.2⟩
        have hbo := mulb hc hfo'.1 (by omega) hc5
        have hp : phi c old = c * old := phi_small hfo'.1 (by omega)
        have hpi : ¬ phi c old = infZ := by rw [hp]; unfold infZ; omega
        rw [if_neg hi, if_neg hpi, hp]
        have hm : (c * (d + 1) < c * old) ↔ d + 1 < old := Int.mul_lt_mul_left (show 0 < c by omega)
        by_cases hlt : d + 1 < old
        · rw [if_pos hlt, if_pos (hm.2 hlt), lowerP_sc hc]
          refine ⟨?_, fun s' h => ?_⟩
          · cases lowerP s.hs l.t (d + 1) with
            | none => rfl
            | some h => simp only [Option.map_some, scT]; rw [sL_set c s.ds _ ep.symm]
          · obtain ⟨h', -, rfl⟩ := Option.map_eq_some_iff.1 h
            exact fnB_set hf (.inr ⟨by omega, by omega⟩)
        · rw [if_neg hlt, if_neg (fun h => hlt (hm.1 h))]
          exact ⟨rfl, fun s' h => by cases h; exact hf⟩
  · rw [if_neg ho, if_neg ho]
    exact ⟨rfl, fun s' h => by cases h⟩
theorem relaxL_sc {c : Int} (hc : 1 ≤ c) (hc5 : c ≤ 500) : ∀ (ls : List Lk) (s : Ts) (d : Int), 0 ≤ d → d ≤ 1000 → (∀ l ∈ ls, l.c = 1) → (∀ x ∈ s.ds, fnB 1001 x) →
    relaxL (scT c s) (c * d) (ls.map (scK c)) = (relaxL s d ls).map (scT c) ∧ ∀ s', relaxL s d ls = some s' → ∀ x ∈ s'.ds, fnB 1001 x
  | [], s, d, _, _, _, hf => ⟨rfl, fun s' h => by cases h; exact hf⟩
  | l :: ls, s, d, h0, h1, hl, hf => by
    have hr := relaxP_sc hc hc5 s d l h0 h1 (hl l (List.mem_cons_self ..)) hf
    rw [List.map_cons, relaxL, relaxL, hr.1]
    cases hs : relaxP s d l with
    | none => exact ⟨rfl, fun s' h => by cases h⟩
    | some s1 =>
      simp only [Option.map_some, Option.bind_some]
      exact relaxL_sc hc hc5 ls s1 d h0 h1 (fun l' h => hl l' (List.mem_cons_of_mem _ h)) (hr.2 s1 hs)
/-- the search with links of cost 1, kept small -/
def treeLoopU (xss : List (List Lk)) : Nat → Ts → Option (List Int)
  | 0, _ => none
  | f + 1, s => if s.hs.es.length = 0 then some s.ds else
    (popP s.hs).bind fun r => if oks r.1.n = true ∧ 0 ≤ r.1.k ∧ r.1.k ≤ 1000 then
      match xss[r.1.n.toNat]? with
      | some ls => (relaxL ⟨r.2, s.ds⟩ r.1.k ls).bind fun s' => treeLoopU xss f s'
      | none => none
    else none
theorem treeLoop_sc {c : Int} (hc : 1 ≤ c) (hc5 : c ≤ 500) (xss : List (List Lk)) (hx : ∀ xs ∈ xss, ∀ l ∈ xs, l.c = 1) : ∀ (f : Nat) (s : Ts) (ds : List Int), (∀ x ∈ s.ds, fnB 1001 x) → treeLoopU xss f s = some ds →
    treeLoop (xss.map fun xs => xs.map (scK c)) f (scT c s) = some (sL c ds)
  | 0, s, ds, _, h => by cases h
  | f + 1, s, ds, hf, h => by
    rw [treeLoopU] at h
    rw [treeLoop]
    have el : (scT c s).hs.es.length = s.hs.es.length := by simp [scT, scH]
    rw [el]
    by_cases h0 : s.hs.es.length = 0
    · rw [if_pos h0] at h ⊢
      injection h with h
      rw [← h]
      rfl
    · rw [if_neg h0] at h ⊢
      have eh : (scT c s).hs = scH c s.hs := rfl
      rw [eh, popP_sc hc]
      cases hp : popP s.hs with
      | none => rw [hp] at h; cases h
      | some r =>
        rw [hp] at h
        simp only [Option.bind_some, Option.map_some] at h ⊢
        split at h
        · rename_i hk
          have e1 : (scE c r.1).n = r.1.n := rfl
          rw [e1, if_pos hk.1]
          rw [List.getElem?_map]
          cases hxs : xss[r.1.n.toNat]? with
          | none => rw [hxs] at h; cases h
          | some ls =>
            rw [hxs] at h
            simp only [Option.map_some] at h ⊢
            have hr := relaxL_sc hc hc5 ls ⟨r.2, s.ds⟩ r.1.k hk.2.1 hk.2.2 (hx ls (List.mem_of_getElem? hxs)) hf
            have e2 : relaxL ⟨scH c r.2, (scT c s).ds⟩ (scE c r.1).k (ls.map (scK c)) = (relaxL ⟨r.2, s.ds⟩ r.1.k ls).map (scT c) := hr.1
            rw [e2]
            cases hrl : relaxL ⟨r.2, s.ds⟩ r.1.k ls with
            | none => rw [hrl] at h; cases h
            | some s1 =>
              rw [hrl] at h
              simp only [Option.map_some, Option.bind_some] at h ⊢
              exact treeLoop_sc hc hc5 xss hx f s1 ds (hr.2 s1 hrl) h
        · cases h
def treeU (xss : List (List Lk)) (root : Int) : Option (List Int) :=
  if oks root = true then (pushP h0s root 0).bind fun h => treeLoopU xss 2000 ⟨h, (List.replicate 128 infZ).set root.toNat 0⟩ else none
theorem treeP_sc {c : Int} (hc : 1 ≤ c) (hc5 : c ≤ 500) (xss : List (List Lk)) (root : Int) (ds : List Int) (hx : ∀ xs ∈ xss, ∀ l ∈ xs, l.c = 1) (h : treeU xss root = some ds) : treeP (xss.map fun xs => xs.map (scK c)) root = some (sL c ds) := by
  unfold treeU at h
  unfold treeP
  split at h
  · rename_i ho
    rw [if_pos ho]
    have e0 : pushP h0s root 0 = (pushP h0s root 0).map (scH c) := by
      have := pushP_sc hc h0s root 0
      rw [Int.mul_zero] at this
      exact this
    cases hp : pushP h0s root 0 with
    | none => rw [hp] at h; cases h
    | some s =>
      rw [hp] at h e0
      simp only [Option.bind_some, Option.map_some, Option.some.injEq] at h e0 ⊢
      have e1 : (⟨s, (List.replicate 128 infZ).set root.toNat 0⟩ : Ts) = scT c ⟨s, (List.replicate 128 infZ).set root.toNat 0⟩ := by
        unfold scT
        simp only []
        rw [← e0, ← sL_set c (List.replicate 128 infZ) root.toNat (phi_zero c).symm]
        congr 2
      rw [e1]
      refine treeLoop_sc hc hc5 xss hx 2000 _ ds ?_ h
      exact fnB_set (fun x hx => .inl (List.eq_of_mem_replicate hx)) (.inr ⟨Int.le_refl _, by omega⟩)
  · cases h
end Go.Proofs.Ytpklcefiabjplaa
