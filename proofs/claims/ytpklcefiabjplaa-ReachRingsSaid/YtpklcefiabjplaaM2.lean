/- Rings: what the cost as a factor leaves alone; plain; conditions as stated. -/
import Derived.Test.YtpklcefiabjplaaM1
namespace Go.Proofs.Ytpklcefiabjplaa
open Go.ChangeShapes Go.WideShapes Go.ChangeAt Go.RowKit
set_option linter.unusedVariables false
theorem getD_map_nil {g : Lk → Lk} (xss : List (List Lk)) (i : Nat) : (xss.map fun xs => xs.map g).getD i [] = (xss.getD i []).map g := by
  rw [List.getD_eq_getElem?_getD, List.getD_eq_getElem?_getD, List.getElem?_map]
  cases xss[i]? <;> rfl
theorem setApp (c : Int) (yss : List (List Lk)) (i : Nat) (l : Lk) : (yss.map fun xs => xs.map (scK c)).set i ((yss.map fun xs => xs.map (scK c)).getD i [] ++ [scK c l]) = (yss.set i (yss.getD i [] ++ [l])).map fun xs => xs.map (scK c) := by
  rw [getD_map_nil, List.map_set, List.map_append]
  rfl
theorem addL_sc (c : Int) (xss : List (List Lk)) (l : Lk) : addL (xss.map fun xs => xs.map (scK c)) (scK c l) = (addL xss l).map fun xs => xs.map (scK c) := by
  unfold addL
  have e1 : (scK c l).f = l.f := rfl
  have e2 : (scK c l).t = l.t := rfl
  simp only [e1, e2]
  rw [setApp, setApp]
theorem viewL_sc (c : Int) (ls : List Lk) : viewL (ls.map (scK c)) = (viewL ls).map fun xs => xs.map (scK c) := by
  have key : ∀ (ls : List Lk) (xss : List (List Lk)), (ls.map (scK c)).foldl addL (xss.map fun xs => xs.map (scK c)) = (ls.foldl addL xss).map fun xs => xs.map (scK c) := by
    intro ls
    induction ls with
    | nil => intro xss; rfl
    | cons l ls ih => intro xss; rw [List.map_cons, List.foldl_cons, List.foldl_cons, addL_sc, ih]
  have := key ls (List.replicate 256 [])
  rw [List.map_replicate] at this
  exact this
theorem viewL_in {ls : List Lk} : ∀ xs ∈ viewL ls, ∀ l ∈ xs, l ∈ ls := by
  have hset : ∀ (P : Lk → Prop) (yss : List (List Lk)) (i : Nat) (l : Lk), (∀ xs ∈ yss, ∀ x ∈ xs, P x) → P l → ∀ xs ∈ yss.set i (yss.getD i [] ++ [l]), ∀ x ∈ xs, P x := by
    intro P yss i l hy hl xs hxs x hx
    rcases List.mem_or_eq_of_mem_set hxs with h1 | h1
    · exact hy xs h1 x hx
    · subst h1
      rcases List.mem_append.1 hx with h2 | h2
      · rw [List.getD_eq_getElem?_getD] at h2
        cases e : yss[i]? with
        | none => rw [e] at h2; cases h2
        | some zs => rw [e] at h2; exact hy zs (List.mem_of_getElem? e) x h2
      · rw [List.mem_singleton.1 h2]; exact hl
  have key : ∀ (P : Lk → Prop) (ls : List Lk) (xss : List (List Lk)), (∀ l ∈ ls, P l) → (∀ xs ∈ xss, ∀ x ∈ xs, P x) → ∀ xs ∈ ls.foldl addL xss, ∀ x ∈ xs, P x := by
    intro P ls
    induction ls with
    | nil => intro xss _ h; exact h
    | cons l ls ih =>
      intro xss hl h
      rw [List.foldl_cons]
      refine ih _ (fun x hx => hl x (List.mem_cons_of_mem _ hx)) ?_
      unfold addL
      exact hset P _ _ l (hset P _ _ l h (hl l (List.mem_cons_self ..))) (hl l (List.mem_cons_self ..))
  exact key (fun l => l ∈ ls) ls _ (fun l h => h) (fun xs hxs x hx => by
    rw [List.eq_of_mem_replicate hxs] at hx
    cases hx)
theorem lsR_sc (n : Nat) (c : Int) : lsR n c = (lsR n 1).map (scK c) := by
  unfold lsR lsRp
  rw [List.map_flatMap]
  congr 1
  funext a
  unfold rowR
  rw [List.map_map]
  congr 1
  funext b
  simp [scK]
theorem lsR_one {n : Nat} : ∀ l ∈ lsR n 1, l.c = 1 := by
  intro l hl
  unfold lsR lsRp at hl
  obtain ⟨a, -, h⟩ := List.mem_flatMap.1 hl
  unfold rowR at h
  obtain ⟨b, -, rfl⟩ := List.mem_map.1 h
  rfl
theorem treeR {c : Int} (hc : 1 ≤ c) (hc5 : c ≤ 500) {n : Nat} {root : Int} {ds : List Int} (h : treeU (viewL (lsR n 1)) root = some ds) : treeP (viewL (lsR n c)) root = some (sL c ds) := by
  rw [lsR_sc, viewL_sc]
  exact treeP_sc hc hc5 _ _ _ (fun xs hxs l hl => lsR_one l (viewL_in xs hxs l hl)) h
/-- the reference's distances -/
theorem relaxR_sc {c : Int} (hc : 1 ≤ c) (hc5 : c ≤ 500) {B : Nat} (hB : B ≤ 2000) (d : List Int) (l : Lk) (hl : l.c = 1) (hf : ∀ x ∈ d, fnB B x) : relaxR (sL c d) (scK c l) = sL c (relaxR d l) ∧ ∀ x ∈ relaxR d l, fnB (B + 1) x := by
  have ha := fnB_getD hf l.f.toNat
  have hb := fnB_getD hf l.t.toNat
  have e1 : (scK c l).f = l.f := rfl
  have e2 : (scK c l).t = l.t := rfl
  have e3 : (scK c l).c = c := by simp [scK, hl]
  unfold relaxR
  rw [e1, e2, e3, hl, sL_getD, sL_getD]
  generalize d.getD l.f.toNat 0 = a at *
  generalize d.getD l.t.toNat 0 = b at *
  rcases ha with ha | ⟨ha0, ha1⟩
  · subst ha
    rw [phi_inf, if_neg (by unfold dsum clp; omega), if_neg (by unfold dsum clp; omega)]
    exact ⟨rfl, fun x hx => fnB_mono (hf x hx) (by omega)⟩
  · have ma := mulb hc ha0 (by omega) hc5
    have ma1 := mulb hc (x := a + 1) (by omega) (by omega) hc5
    have pa : phi c a = c * a := phi_small ha0 (by omega)
    have pa1 : phi c (a + 1) = c * (a + 1) := phi_small (by omega) (by omega)
    have em : c * (a + 1) = c * a + c := by rw [Int.mul_add, Int.mul_one]
    have s1 : clp (dsum a 1) = a + 1 := by unfold dsum clp; omega
    have s2 : clp (dsum (phi c a) c) = c * (a + 1) := by rw [pa, em]; unfold dsum clp; omega
    have w1 : wrap64 (a + 1) = a + 1 := by unfold wrap64; omega
    have w2 : wrap64 (phi c a + c) = phi c (a + 1) := by rw [pa, pa1, em]; unfold wrap64; omega
    rw [s1, s2, w1, w2]
    have hfin : ∀ x ∈ d.set l.t.toNat (a + 1), fnB (B + 1) x := fnB_set (fun x hx => fnB_mono (hf x hx) (by omega)) (.inr ⟨by omega, by omega⟩)
    have hfd : ∀ x ∈ d, fnB (B + 1) x := fun x hx => fnB_mono (hf x hx) (by omega)
    rcases hb with hb | ⟨hb0, hb1⟩
    · subst hb
      rw [phi_inf, if_pos (by unfold clp; omega), if_pos (by unfold clp; omega)]
      exact ⟨sL_set c d _ rfl, hfin⟩
    · have mb := mulb hc hb0 (by omega) hc5
      have pb : phi c b = c * b := phi_small hb0 (by omega)
      have t1 : clp b = b := by unfold clp; omega
      have t2 : clp (phi c b) = c * b := by rw [pb]; unfold clp; omega
      have hm : (c * (a + 1) < c * b) ↔ a + 1 < b := Int.mul_lt_mul_left (show 0 < c by omega)
      rw [t1, t2]
      by_cases hlt : a + 1 < b
      · rw [if_pos hlt, if_pos (hm.2 hlt)]
        exact ⟨sL_set c d _ rfl, hfin⟩
      · rw [if_neg hlt, if_neg (fun h => hlt (hm.1 h))]
        exact ⟨rfl, hfd⟩
theorem roundR_sc {c : Int} (hc : 1 ≤ c) (hc5 : c ≤ 500) : ∀ (ls : List Lk) (B : Nat) (d : List Int), B + ls.length ≤ 2000 → (∀ l ∈ ls, l.c = 1) → (∀ x ∈ d, fnB B x) → roundR (ls.map (scK c)) (sL c d) = sL c (roundR ls d) ∧ ∀ x ∈ roundR ls d, fnB (B + ls.length) x
  | [], B, d, _, _, hf => ⟨rfl, fun x hx => fnB_mono (hf x hx) (by simp)⟩
  | l :: ls, B, d, hB, hl, hf => by
    rw [List.length_cons] at hB
    have hr := relaxR_sc hc hc5 (show B ≤ 2000 by omega) d l (hl l (List.mem_cons_self ..)) hf
    have ih := roundR_sc hc hc5 ls (B + 1) (relaxR d l) (by omega) (fun l' h => hl l' (List.mem_cons_of_mem _ h)) hr.2
    refine ⟨?_, fun x hx => ?_⟩
    · show roundR (ls.map (scK c)) (relaxR (sL c d) (scK c l)) = _
      rw [hr.1]
      exact ih.1
    · have := ih.2 x hx
      exact fnB_mono this (by rw [List.length_cons]; omega)
theorem itR_sc {c : Int} (hc : 1 ≤ c) (hc5 : c ≤ 500) (ls : List Lk) (d : List Int) (hl : ∀ l ∈ ls, l.c = 1) (hf : ∀ x ∈ d, fnB 0 x) : ∀ k, k * ls.length ≤ 2000 → itR (ls.map (scK c)) (sL c d) k = sL c (itR ls d k) ∧ ∀ x ∈ itR ls d k, fnB (k * ls.length) x
  | 0, _ => ⟨rfl, fun x hx => fnB_mono (hf x hx) (by omega)⟩
  | k + 1, h => by
    rw [Nat.succ_mul] at h
    have ih := itR_sc hc hc5 ls d hl hf k (by omega)
    rw [itR, itR, ih.1]
    have hr := roundR_sc hc hc5 ls (k * ls.length) (itR ls d k) h hl ih.2
    exact ⟨hr.1, fun x hx => fnB_mono (hr.2 x hx) (by rw [Nat.succ_mul]; omega)⟩
theorem startR_fn (root : Nat) : ∀ x ∈ startR root, fnB 0 x := by
  unfold startR
  exact fnB_set (fun x hx => .inl (List.eq_of_mem_replicate hx)) (.inr ⟨Int.le_refl _, by simp⟩)
theorem startR_sc (c : Int) (root : Nat) : sL c (startR root) = startR root := by
  unfold startR
  rw [← sL_set c _ root (phi_zero c).symm]
  congr 1
theorem distR_sc {c : Int} (hc : 1 ≤ c) (hc5 : c ≤ 500) {n : Nat} {root : Nat} (hn : n * (lsR n 1).length ≤ 2000) : distR n (lsR n c) root = sL c (distR n (lsR n 1) root) := by
  unfold distR
  rw [lsR_sc n c]
  have := (itR_sc hc hc5 (lsR n 1) (startR root) lsR_one (startR_fn root) n hn).1
  rw [startR_sc] at this
  exact this
/-- the reference's parents -/
theorem phi_lt {c : Int} (hc : 1 ≤ c) (hc5 : c ≤ 500) {x : Int} (h : fnB 2000 x) : decide (phi c x < 1073741824) = decide (x < 1073741824) := by
  rcases h with h | ⟨h0, h1⟩
  · rw [h, phi_inf]
  · have m := mulb hc h0 (by omega) hc5
    rw [phi_small h0 (by omega), decide_eq_true (show c * x < 1073741824 by omega), decide_eq_true (show x < 1073741824 by omega)]
theorem parB_sc {c : Int} (hc : 1 ≤ c) (hc5 : c ≤ 500) (ds : List Int) (root v : Nat) (l : Lk) (hl : l.c = 1) (hf : ∀ x ∈ ds, fnB 2000 x) : parB (sL c ds) root v (scK c l) = parB ds root v l := by
  have ha := fnB_getD hf v
  have hb := fnB_getD hf l.f.toNat
  have e1 : (scK c l).f = l.f := rfl
  have e2 : (scK c l).t = l.t := rfl
  have e3 : (scK c l).c = c := by simp [scK, hl]
  unfold parB
  rw [e1, e2, e3, hl, sL_getD, sL_getD, phi_lt hc hc5 ha, phi_lt hc hc5 hb]
  generalize ds.getD v 0 = a at *
  generalize ds.getD l.f.toNat 0 = b at *
  by_cases h1 : a < 1073741824
  · by_cases h2 : b < 1073741824
    · have ha' : 0 ≤ a ∧ a ≤ 2000 := by rcases ha with h | h; omega; exact h
      have hb' : 0 ≤ b ∧ b ≤ 2000 := by rcases hb with h | h; omega; exact h
      have ma := mulb hc ha'.1 (by omega) hc5
      have mb := mulb hc hb'.1 (by omega) hc5
      rw [phi_small ha'.1 (by omega), phi_small hb'.1 (by omega)]
      have em : c * (b + 1) = c * b + c := by rw [Int.mul_add, Int.mul_one]
      have w1 : wrap64 (b + 1) = b + 1 := by unfold wrap64; omega
      have w2 : wrap64 (c * b + c) = c * (b + 1) := by rw [em]; unfold wrap64; omega
      have hm : (c * (b + 1) = c * a) ↔ b + 1 = a := Int.mul_eq_mul_left_iff (show c ≠ 0 by omega)
      rw [w1, w2]
      congr 1
      exact decide_eq_decide.2 hm
    · simp [h2]
  · simp [h1]
theorem parsR_sc {c : Int} (hc : 1 ≤ c) (hc5 : c ≤ 500) {n : Nat} (ds : List Int) (root k : Nat) (hf : ∀ x ∈ ds, fnB 2000 x) : parsR (sL c ds) root (lsR n c) k = parsR ds root (lsR n 1) k := by
  unfold parsR
  congr 1
  funext v
  congr 1
  unfold parL
  rw [lsR_sc n c, List.filter_map, List.map_map]
  congr 1
  refine List.filter_congr fun l hl => ?_
  exact parB_sc hc hc5 ds root v l (lsR_one l hl) hf
theorem takesP_sc {c : Int} (hc : 1 ≤ c) (hc5 : c ≤ 500) {a b d : Int} (ha : fnB 900 a) (hb : fnB 900 b) (hd : fnB 900 d) : takesP c (phi c a) (phi c b) (phi c d) = takesP 1 a b d := by
  unfold takesP
  congr 1
  refine decide_eq_decide.2 ?_
  have pm : ∀ x : Int, fnB 900 x → (x = 1073741824 ∧ phi c x = 1073741824) ∨ (0 ≤ x ∧ x ≤ 900 ∧ phi c x = c * x ∧ 0 ≤ c * x ∧ c * x ≤ 1000500) := fun x hx => by
    rcases hx with h | ⟨h0, h1⟩
    · exact .inl ⟨h, by rw [h, phi_inf]⟩
    · exact .inr ⟨h0, h1, phi_small h0 (by omega), (mulb hc h0 (by omega) hc5).1, (mulb hc h0 (by omega) hc5).2⟩
  have key : ∀ x : Int, 0 ≤ x → x ≤ 2001 → 0 ≤ c * x ∧ c * x ≤ 1000500 := fun x h0 h1 => mulb hc h0 h1 hc5
  rcases pm b hb with ⟨b1, b2⟩ | ⟨b0, b1, b2, b3, b4⟩
  · rw [b2, b1]
    rcases pm a ha with ⟨a1, a2⟩ | ⟨a0, a1, a2, a3, a4⟩
    · rw [a2, a1]; unfold dsum clp; omega
    · rw [a2]; unfold dsum clp; omega
  · rcases pm d hd with ⟨d1, d2⟩ | ⟨d0, d1, d2, d3, d4⟩
    · rw [d2, d1]
      rcases pm a ha with ⟨a1, a2⟩ | ⟨a0, a1, a2, a3, a4⟩
      · rw [a2, a1, b2]; unfold dsum clp; omega
      · rw [a2, b2]; unfold dsum clp; omega
    · have ks := key (b + 1 + d) (by omega) (by omega)
      have em : c * (b + 1 + d) = c * b + c + c * d := by rw [Int.mul_add, Int.mul_add, Int.mul_one]
      have s1 : clp (dsum (dsum b 1) d) = b + 1 + d := by unfold dsum clp; omega
      have s2 : clp (dsum (dsum (phi c b) c) (phi c d)) = c * (b + 1 + d) := by rw [b2, d2, em] at *; unfold dsum clp; omega
      rw [s1, s2]
      rcases pm a ha with ⟨a1, a2⟩ | ⟨a0, a1, a2, a3, a4⟩
      · rw [a2, a1]; unfold clp; omega
      · have t1 : clp a = a := by unfold clp; omega
        have t2 : clp (phi c a) = c * a := by rw [a2]; unfold clp; omega
        rw [t1, t2]
        exact Int.mul_lt_mul_left (show 0 < c by omega)
theorem nearB_sc {c : Int} (hc : 1 ≤ c) (hc5 : c ≤ 500) {hd td : List Int} (h1 : ∀ x ∈ hd, fnB 900 x) (h2 : ∀ x ∈ td, fnB 900 x) (f n : Nat) : nearB (sL c hd) (sL c td) c f n = nearB hd td 1 f n := by
  unfold nearB
  rw [sL_getD, sL_getD, sL_getD, phi_lt hc hc5 (fnB_mono (fnB_getD h1 n) (by omega)), takesP_sc hc hc5 (fnB_getD h1 n) (fnB_getD h1 f) (fnB_getD h2 n)]
theorem farB_sc {c : Int} (hc : 1 ≤ c) (hc5 : c ≤ 500) {hd td : List Int} (h1 : ∀ x ∈ hd, fnB 900 x) (h2 : ∀ x ∈ td, fnB 900 x) (f b : Nat) : farB (sL c hd) (sL c td) c f b = farB hd td 1 f b := by
  unfold farB
  rw [sL_getD, sL_getD, sL_getD, phi_lt hc hc5 (fnB_mono (fnB_getD h1 b) (by omega)), takesP_sc hc hc5 (fnB_getD h1 b) (fnB_getD h1 f) (fnB_getD h2 b)]
theorem relayS_sc {c : Int} (hc : 1 ≤ c) (hc5 : c ≤ 500) (hds : Nat → List Int) (h : ∀ r, ∀ x ∈ hds r, fnB 900 x) (s p : Nat) (ns : List Nd) : relayS (fun r => sL c (hds r)) c s p ns = relayS hds 1 s p ns := by
  unfold relayS
  have e1 : (fun i : Int => nearB (sL c (hds s)) (sL c (hds p)) c s i.toNat) = fun i : Int => nearB (hds s) (hds p) 1 s i.toNat := funext fun i => nearB_sc hc hc5 (h s) (h p) s i.toNat
  have e2 : (fun i : Int => farB (sL c (hds i.toNat)) (sL c (hds p)) c s p) = fun i : Int => farB (hds i.toNat) (hds p) 1 s p := funext fun i => farB_sc hc hc5 (h i.toNat) (h p) s p
  simp only [e1, e2]
end Go.Proofs.Ytpklcefiabjplaa
