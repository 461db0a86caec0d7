/- The reference: Near and Far; conditions as stated. -/
import Derived.Test.YtpklcefiabjplaaT9
namespace Go.Proofs.Ytpklcefiabjplaa
open Go.ChangeShapes Go.WideShapes Go.ChangeAt Go.RowKit
set_option linter.unusedVariables false
set_option linter.unusedSimpArgs false
attribute [local go_sem] Og.Opt Og.OpY

attribute [local go_sem] Og.Opt Og.OpY
/-- the answer of takes is this -/
def TkR (par : List Nat) (x f t : Nat) (b : Bool) : Prop := ∃ F S, closeR par F (ofM [x]) = some S ∧ S < 2 ^ 128 ∧ b = (S.testBit t && (par.getD t 0).testBit f)
theorem parsR_bd {ds : List Int} {root : Nat} {ls : List Lk} {k : Nat} (h : ∀ l ∈ ls, oks l.f = true ∧ oks l.t = true) (n : Nat) : (parsR ds root ls k).getD n 0 < 2 ^ 128 := by
  rw [List.getD_eq_getElem?_getD]
  cases e : (parsR ds root ls k)[n]? with
  | none => simp
  | some M =>
    unfold parsR at e
    rw [List.getElem?_map] at e
    obtain ⟨v, _, rfl⟩ := Option.map_eq_some_iff.1 e
    refine ofM_lt fun x hx => ?_
    unfold parL at hx
    obtain ⟨l, hm, rfl⟩ := List.mem_map.1 hx
    have := (h l (List.mem_filter.1 hm).1).1
    simp only [oks, Bool.and_eq_true, decide_eq_true_eq] at this
    omega
theorem gx_oks {w : World} {va vb vc : Value} {ns : List Nd} {ls : List Lk} (g : GX w va vb vc ns ls) : (∀ x ∈ ns, oks x.i = true) ∧ (∀ l ∈ ls, oks l.f = true ∧ oks l.t = true) := by
  refine ⟨fun x hm => ?_, fun l hm => ?_⟩
  · obtain ⟨i, hi⟩ := List.mem_iff_getElem?.1 hm
    have a1 := rng_of (g.snd.nr i x hi)
    simp only [oks, Bool.and_eq_true, decide_eq_true_eq]
    omega
  · obtain ⟨i, hi⟩ := List.mem_iff_getElem?.1 hm
    obtain ⟨h1, h2, -⟩ := g.snd.lr i l hi
    have a1 := rng_of (g.snd.at h1)
    have a2 := rng_of (g.snd.at h2)
    simp only [oks, Bool.and_eq_true, decide_eq_true_eq]
    omega
def nearR (d : List Int) (tk : Nat → Bool) (n : Nat) : Bool := decide (d.getD n 0 < 1073741824) && !tk n
theorem SlI3 {w : World} {g : Nat} {a b c : Int} {n : Nat} (h : w.heap[g]? = some (.cells #[.int .i64 a, .int .i64 b, .int .i64 c] 3 (0, 0))) : Sl cI 1 0 w (.slice (some ⟨g, 0, none⟩) 3 3) [a, b, c] := by
  refine ⟨_, _, rfl, fun i r hi => ⟨_, _, rfl, ?_⟩, fun h => (by cases h), fun a ha => Nat.zero_le _, Nat.le_refl _⟩
  intro j v hv
  have hj : j = 0 := by
    rcases j with _ | j
    · rfl
    · simp [cI] at hv
  subst hj
  have hv' : v = .int .i64 r := by simpa [cI] using hv.symm
  subst hv'
  rw [cell_of_row _ _ _ _ _ _ h]
  rcases i with _ | _ | _ | i <;> simp at hi
  all_goals (try subst hi)
  all_goals rfl
theorem SlI2 {w : World} {g : Nat} {a b : Int} (h : w.heap[g]? = some (.cells #[.int .i64 a, .int .i64 b] 3 (0, 0))) : Sl cI 1 0 w (.slice (some ⟨g, 0, none⟩) 2 2) [a, b] := by
  refine ⟨_, _, rfl, fun i r hi => ⟨_, _, rfl, ?_⟩, fun h => (by cases h), fun a ha => Nat.zero_le _, Nat.le_refl _⟩
  intro j v hv
  have hj : j = 0 := by
    rcases j with _ | j
    · rfl
    · simp [cI] at hv
  subst hj
  have hv' : v = .int .i64 r := by simpa [cI] using hv.symm
  subst hv'
  rw [cell_of_row _ _ _ _ _ _ h]
  rcases i with _ | _ | i <;> simp at hi
  all_goals (try subst hi)
  all_goals rfl

set_option maxRecDepth 100000 in
set_option maxHeartbeats 16000000 in
theorem rNear_ok (a f t : Nat) (ns : List Nd) (ls : List Lk) (va vb vc : Value) (w : World) (tk : Nat → Bool) (g : GX w va vb vc ns ls)
    (hna : ∃ x ∈ ns, x.i = (a : Int)) (hnf : ∃ x ∈ ns, x.i = (f : Int)) (hnt : ∃ x ∈ ns, x.i = (t : Int)) (hfl : ∃ l ∈ ls, l.f = (f : Int) ∧ l.t = (t : Int))
    (htk : ∀ n, n < 128 → (distR ns.length ls a).getD n 0 < 1073741824 → TkR (parsR (distR ns.length ls a) a ls 128) n f t (tk n)) :
    Calls Try.prog 26 #[.agg #[va, vb, vc], .int .i64 a, .int .i64 f, .int .i64 t] w fun e w' => e = .returned (.tuple #[mV (ofM (lkP (nearR (distR ns.length ls a) tk) 128)), .int .i64 0]) ∧ Below w.heap.size w w' := by
  have h8 : a < 128 ∧ f < 128 ∧ t < 128 := by
    obtain ⟨x, hx, ex⟩ := hna
    obtain ⟨y, hy, ey⟩ := hnf
    obtain ⟨u, hu, eu⟩ := hnt
    have o1 := (gx_oks g).1 x hx
    have o2 := (gx_oks g).1 y hy
    have o3 := (gx_oks g).1 u hu
    simp only [oks, Bool.and_eq_true, decide_eq_true_eq] at o1 o2 o3
    omega
  obtain ⟨ha8, hf8, ht8⟩ := h8
  obtain ⟨kl, hkl⟩ : ∃ kl : Nat, fndL ls f t = (kl : Int) := ⟨(fndL ls f t).toNat, by have := fndL_nn hfl; omega⟩
  have dkl : decide ((kl : Int) < 0) = false := decide_eq_false (by omega)
  have dkl2 : ¬ ((kl : Int) < 0) := by omega
  have HNO := Lib.hid (fun v w2 (g2 : GX w2 va vb vc ns ls) (h : Sl cI 1 0 w2 v [(a : Int), f, t]) => rNodes_ok [(a : Int), f, t] v ns ls va vb vc w2 g2 h (by simp) (by
    intro x hx
    simp only [List.mem_cons, List.not_mem_nil, or_false] at hx
    rcases hx with rfl | rfl | rfl
    · exact hna
    · exact hnf
    · exact hnt))
  have HFL : Hid (∀ w2 (g2 : GX w2 va vb vc ns ls), Calls Try.prog 25 #[.agg #[va, vb, vc], .int .i64 f, .int .i64 t] w2 fun e w' => e = .returned (.int .i64 (kl : Int)) ∧ Below w2.heap.size w2 w') := Lib.hid (fun w2 g2 => by have := rFindLink_ok ns ls va vb vc f t w2 g2.sb (by have := g2.snd.ll; omega); rwa [hkl] at this)
  have HDI := Lib.hid (fun w2 (g2 : GX w2 va vb vc ns ls) => rDists_ok a ns ls va vb vc w2 g2 ha8)
  obtain ⟨d, hd⟩ : ∃ d, d = distR ns.length ls a := ⟨_, rfl⟩
  rw [← hd] at htk HDI ⊢
  have hdl : d.length = 128 := by rw [hd]; unfold distR; rw [itR_len]; simp [startR]
  have HPA := Lib.hid (fun vd w2 (g2 : GX w2 va vb vc ns ls) (h : Sl cI 1 0 w2 vd d) => rPars_ok a d vd ns ls va vb vc w2 g2 ha8 h hdl)
  obtain ⟨par, hpar⟩ : ∃ par, par = parsR d a ls 128 := ⟨_, rfl⟩
  rw [← hpar] at htk HPA
  have HPL : Hid (par.length = 128) := Lib.hid (by rw [hpar, parsR_l])
  have HPB : Hid (∀ n, par.getD n 0 < 2 ^ 128) := Lib.hid (fun n => by rw [hpar]; exact parsR_bd (gx_oks g).2 n)
  have HTK := Lib.hid htk
  have HDL := Lib.hid hdl
  have GG := Lib.hid g
  have A8 := Lib.hid ha8
  have F8 := Lib.hid hf8
  have T8 := Lib.hid ht8
  obtain ⟨p, hp⟩ : ∃ p, p = nearR d tk := ⟨_, rfl⟩
  rw [← hp]
  have HP := Lib.hid hp
  clear hp
  clear hna hnf hnt hfl htk g ha8 hf8 ht8 hkl hd hdl hpar
  obtain ⟨z, hz⟩ : ∃ z, z = w.heap.size := ⟨_, rfl⟩
  have b1 : Below w.heap.size w ((w.alloc (.cells #[va, vb, vc] 33)).alloc (.cells #[.int .u64 0, .int .u64 0] 25)) := ((Below.refl _ _).alloc (Nat.le_refl _) _).alloc (by simp) _
  have k4 : ((w.alloc (.cells #[va, vb, vc] 33)).alloc (.cells #[.int .u64 0, .int .u64 0] 25)).heap[z]? = some (.cells #[va, vb, vc] 33 (0, 0)) := heap_keep ((Below.refl _ _).alloc (Nat.le_refl _) _) (heap_at hz)
  have k8 : ((w.alloc (.cells #[va, vb, vc] 33)).alloc (.cells #[.int .u64 0, .int .u64 0] 25)).heap[z + 1]? = some (.cells #[.int .u64 0, .int .u64 0] 25 (0, 0)) := heap_at (by rw [hz]; simp)
  have hS : ((w.alloc (.cells #[va, vb, vc] 33)).alloc (.cells #[.int .u64 0, .int .u64 0] 25)).heap.size = z + 1 + 1 := by rw [hz]; simp
  have HZ := Lib.hid hz
  have B1 := Lib.hid b1
  have K4 := Lib.hid k4
  have K8 := Lib.hid k8
  clear b1 k4 k8
  go_enter Try.func26, Try.ntmps26
  go_wp2_with (refine wpList_loadL rfl 33 (.tmp 4) rfl w.heap.size 0 (.agg #[va, vb, vc]) rfl (run_loadL (cs := [va, vb, vc]) isAgg33 size33 rfl (AtL_heap (by rw [← HZ.out]; exact K4.out))) ?_)
  rw [← hz]
  clear hz
  generalize ((w.alloc (.cells #[va, vb, vc] 33)).alloc (.cells #[.int .u64 0, .int .u64 0] 25)) = wa at *
  have b2 : Below wa.heap.size wa (wa.alloc (.cells #[.int .i64 a, .int .i64 f, .int .i64 t] 3)) := (Below.refl _ _).alloc (Nat.le_refl _) _
  with_reducible refine (HNO.out _ _ (GG.out.below (bthen B1.out b2)) (SlI3 (n := 0) (heap_at hS.symm))).mono ?_
  rintro e w1 ⟨rfl, hb1⟩
  have C1 := Lib.hid (bthen b2 hb1)
  clear b2 hb1 hS
  go_wp2_with (refine wpList_loadL rfl 33 (.tmp 4) rfl z 0 (.agg #[va, vb, vc]) rfl (run_loadL (cs := [va, vb, vc]) isAgg33 size33 rfl (AtL_heap (heap_keep C1.out K4.out))) ?_)
  with_reducible refine (HFL.out _ (GG.out.below (bthen B1.out C1.out))).mono ?_
  rintro e w2 ⟨rfl, hb2⟩
  have C2 := Lib.hid (bthen C1.out hb2)
  clear hb2 C1
  go_wp2_with (refine wpList_loadL rfl 33 (.tmp 4) rfl z 0 (.agg #[va, vb, vc]) rfl (run_loadL (cs := [va, vb, vc]) isAgg33 size33 rfl (AtL_heap (heap_keep C2.out K4.out))) ?_)
  with_reducible refine (HDI.out _ (GG.out.below (bthen B1.out C2.out))).mono ?_
  rintro e w3 ⟨⟨vd, rfl, ho3⟩, hb3⟩
  obtain ⟨gd, cd, rfl⟩ := own_form ho3 (by omega)
  have C3 := Lib.hid (bthen C2.out hb3)
  have SD := Lib.hid (Sl_of_row cI_len (by omega) (own_lower ho3 (Nat.zero_le _)) HDL.out)
  have OD := Lib.hid ho3
  clear hb3 ho3 C2 dkl dkl2
  go_wp2_with (refine wpList_loadL rfl 33 (.tmp 4) rfl z 0 (.agg #[va, vb, vc]) rfl (run_loadL (cs := [va, vb, vc]) isAgg33 size33 rfl (AtL_heap (heap_keep C3.out K4.out))) ?_)
  with_reducible refine (HPA.out _ _ (GG.out.below (bthen B1.out C3.out)) SD.out).mono ?_
  rintro e w4 ⟨⟨vp, rfl, ho4⟩, hb4⟩
  have C4 := Lib.hid (bthen C3.out hb4)
  have SP := Lib.hid (Sl_of_row cM_len (by omega) (own_lower ho4 (Nat.zero_le _)) HPL.out)
  have OD4 := Lib.hid (own_below OD.out hb4)
  clear hb4 ho4 C3 OD SD
  go_wp2_with fail
  obtain ⟨z5, hz5⟩ : ∃ z5, z5 = w4.heap.size := ⟨_, rfl⟩
  have b5 : Below w4.heap.size w4 (w4.alloc (.cells #[] 3)) := (Below.refl _ _).alloc (Nat.le_refl _) _
  have o5 := fresh_row w4 3 1 z5 (by omega)
  rw [← hz5] at o5 ⊢
  have S5 : Hid (z5 ≤ (w4.alloc (.cells #[] 3)).heap.size) := Lib.hid (by simp; omega)
  generalize (w4.alloc (.cells #[] 3)) = w5 at *
  have B5 := Lib.hid b5
  have O5 := Lib.hid o5
  have Z5 := Lib.hid hz5
  clear b5 o5 hz5
  go_loopw [13, 14] (fun u i wr => ∃ (k : Nat) (o : Value), k ≤ 128 ∧ o = u ∧ i = .int .i64 k ∧ Hid (wr.ownsRow z5 3 1 o (lkP p k).length ((lkP p k).flatMap cN)) ∧ Hid (Below z5 w5 wr)) (fun _ i _ => 128 - (intOf i).toNat)
  case atStart => exact ⟨0, _, Nat.zero_le _, rfl, rfl, O5, Lib.hid (Below.refl _ _)⟩
  case round =>
    clear O5
    obtain ⟨k, o, hk, rfl, rfl, ho, hbw⟩ := hrel
    by_cases hlt : k < 128
    · have hwk1 : IntKind.i64.wrap ((k : Int) + 1) = (k : Int) + 1 := by rw [IntKind.wrap_i64]; omega
      have hk7 : (k : Int) ≤ 127 := by omega
      have hk0 : (0 : Int) ≤ (k : Int) := by omega
      have hk8 : (k : Int) < 128 := by omega
      have BW : Hid (Below w4.heap.size w4 wr) := Lib.hid (B5.out.trans (hbw.out.mono (by rw [Z5.out]; exact Nat.le_refl _)))
      have SB := Lib.hid (Nat.le_trans S5.out hbw.out.size)
      have HL : Hid ((lkP p k).length ≤ 1172812402926) := Lib.hid (Nat.le_trans (lkP_len p k) (by omega))
      obtain ⟨x, hx⟩ : ∃ x, x = d.getD k 0 := ⟨_, rfl⟩
      have q0 : wr.cell? ⟨gd, k, none⟩ = some (.int .i64 x) := bcell BW.out (by rw [OD4.out.cellAt k (by omega), flatI_at, getD_some (by rw [HDL.out]; exact hlt), hx]; rfl)
      have HE2 := Lib.hid (lkP_s p k)
      have hpk : p k = (decide (x < 1073741824) && !tk k) := by rw [HP.out, hx]; rfl
      rw [hpk] at HE2
      have HTT := Lib.hid (HTK.out k hlt)
      rw [← hx] at HTT
      have K8' := Lib.hid hlt
      clear hpk hx hlt
      by_cases hlx : x < 1073741824
      · have dlx : decide (x < 1073741824) = true := decide_eq_true hlx
        rw [dlx] at HE2
        obtain ⟨F, S, hc, hS, hb⟩ := HTT.out hlx
        have HCT : Hid (∀ w2, Below wr.heap.size wr w2 → Calls Try.prog 58 #[vp, .int .i64 k, .int .i64 f, .int .i64 t] w2 fun e w' => e = .returned (.bool (tk k)) ∧ Below w2.heap.size w2 w') := Lib.hid (fun w2 h => by rw [hb]; exact rtakes_ok par vp k f t S F w2 ((SP.out.below BW.out).below h) HPL.out HPB.out K8'.out F8.out T8.out hc hS)
        clear hc hS hb dlx
        go_wp2_with fail
        with_reducible refine (HCT.out _ (Below.refl _ _)).mono ?_
        rintro e w6 ⟨rfl, hb6⟩
        have OB := Lib.hid (own_below ho.out hb6)
        have BB := Lib.hid (hbw.out.trans (below_low hb6 S5.out hbw.out))
        have SB6 := Lib.hid (Nat.le_trans SB.out hb6.size)
        clear hb6 q0 HCT ho hbw
        cases hbt : tk k with
        | true =>
          rw [hbt] at HE2
          clear hbt
          go_wp2_with fail
          go_roundw
          case rel => exact ⟨k + 1, _, by omega, rfl, by go_num, by rw [HE2.out]; exact Lib.hid (by simpa using OB.out), BB⟩
          case measure => simp [intOf]; omega
        | false =>
          rw [hbt] at HE2
          clear hbt
          go_wp2_with (at_builtin; refine wpList_appG cN 1 73 3 8 cN_len cN_one (by omega) Try.underlying73 cinfo3 rfl (by omega) rfl (.tmp 56) (.tmp 58) rfl z5 _ o (lkP p k) k rfl rfl (own_below OB.out ((Below.refl _ _).alloc (Nat.le_refl _) _)) (heap_at rfl) HL.out (alloc_le' SB6.out) ?_; intro v5 w7 ho5 hg5; have b5 := app_below OB.out SB6.out hg5; have O7 := Lib.hid ho5; have B7 := Lib.hid (BB.out.trans b5); clear ho5 hg5 b5)
          go_roundw
          case rel => exact ⟨k + 1, _, by omega, rfl, by go_num, by rw [HE2.out]; exact O7, B7⟩
          case measure => simp [intOf]; omega
      · have dlx : decide (x < 1073741824) = false := decide_eq_false hlx
        rw [dlx] at HE2
        go_wp2_with fail
        go_roundw
        case rel => exact ⟨k + 1, _, by omega, rfl, by go_num, by rw [HE2.out]; exact Lib.hid (by simpa using ho.out), hbw⟩
        case measure => simp [intOf]; omega
    · have hk8 : k = 128 := by omega
      have hk9 : ¬ (k : Int) ≤ 127 := by omega
      subst hk8
      have BW : Hid (Below w4.heap.size w4 wr) := Lib.hid (B5.out.trans (hbw.out.mono (by rw [Z5.out]; exact Nat.le_refl _)))
      have BA : Hid (Below wa.heap.size wa wr) := Lib.hid (bthen C4.out BW.out)
      have K8R := Lib.hid (heap_keep BA.out K8.out)
      have BWR := Lib.hid (bthen B1.out BA.out)
      have hs := Sl_of_row cN_len (by omega) (own_lower ho.out (Nat.zero_le _)) rfl
      have hco := rOf_ok _ _ _ hs (fun x hx => lkP_lt hx) (Nat.le_trans (lkP_len p 128) (by omega))
      obtain ⟨C, hC⟩ : ∃ C, C = ofM (lkP p 128) := ⟨_, rfl⟩
      rw [← hC] at hco
      have HCC := Lib.hid hC
      unfold mV at hco
      have HCO := Lib.hid hco
      clear hs hco hC
      go_wp2_with fail
      with_reducible refine (HCO.out).mono ?_
      rintro e w7 ⟨rfl, hb7⟩
      have B7 := Lib.hid (bthen BWR.out hb7)
      have K7 := Lib.hid (heap_keep hb7 K8R.out)
      clear hb7
      go_wp2_with (first | (refine wpList_storeN rfl 25 (.tmp 8) (.tmp 62) rfl rfl (z + 1) (cM C).toArray rfl rfl 25 _ K7.out cinfo25s rfl (by simp [Value.oneCell', cM]) ?_; intro w9 hz9 hb9 hn9 hs9; have Z9 := Lib.hid hz9; have D9 := Lib.hid (B7.out.trans (hb9 _ (by have := HZ.out; omega))); clear hz9 hb9 hn9 hs9))
      refine bodyPost_ret (results_cell_tmp1' rfl rfl (cldM Z9.out)) rfl ?_
      exact ⟨by rw [← HCC.out]; rfl, D9.out⟩

def farR (n0 : Nat) (ls : List Lk) (b : Nat) (tk : Nat → Bool) (n : Nat) : Bool := decide ((distR n0 ls n).getD b 0 < 1073741824) && !tk n
def farL (q : Nat → Bool) (ns : List Nd) : List Nat := (ns.filter fun x => q x.i.toNat).map fun x => x.i.toNat
theorem farL_take {q : Nat → Bool} {ns : List Nd} {k : Nat} {x : Nd} (h : ns[k]? = some x) : farL q (ns.take (k + 1)) = farL q (ns.take k) ++ (if q x.i.toNat = true then [x.i.toNat] else []) := by
  unfold farL
  rw [List.take_add_one, h, List.filter_append, List.map_append]
  congr 1
  cases hp : q x.i.toNat <;> simp [hp]
theorem farL_len (q : Nat → Bool) (ns : List Nd) : (farL q ns).length ≤ ns.length := by
  unfold farL
  rw [List.length_map]
  exact List.length_filter_le ..
theorem farL_lt {q : Nat → Bool} {ns : List Nd} (h : ∀ x ∈ ns, oks x.i = true) {n : Nat} (hn : n ∈ farL q ns) : n < 128 := by
  unfold farL at hn
  obtain ⟨x, hx, rfl⟩ := List.mem_map.1 hn
  have := h x (List.mem_filter.1 hx).1
  simp only [oks, Bool.and_eq_true, decide_eq_true_eq] at this
  omega

set_option maxRecDepth 100000 in
set_option maxHeartbeats 16000000 in
theorem rFar_ok (a f t : Nat) (ns : List Nd) (ls : List Lk) (va vb vc : Value) (w : World) (tk : Nat → Bool) (g : GX w va vb vc ns ls)
    (hna : ∃ x ∈ ns, x.i = (a : Int)) (hnf : ∃ x ∈ ns, x.i = (f : Int)) (hnt : ∃ x ∈ ns, x.i = (t : Int)) (hfl : ∃ l ∈ ls, l.f = (f : Int) ∧ l.t = (t : Int))
    (htk : ∀ n : Nat, (∃ x ∈ ns, x.i = (n : Int)) → (distR ns.length ls n).getD a 0 < 1073741824 → TkR (parsR (distR ns.length ls n) n ls 128) a f t (tk n)) :
    Calls Try.prog 27 #[.agg #[va, vb, vc], .int .i64 a, .int .i64 f, .int .i64 t] w fun e w' => e = .returned (.tuple #[mV (ofM (farL (farR ns.length ls a tk) ns)), .int .i64 0]) ∧ Below w.heap.size w w' := by
  have h8 : a < 128 ∧ f < 128 ∧ t < 128 := by
    obtain ⟨x, hx, ex⟩ := hna
    obtain ⟨y, hy, ey⟩ := hnf
    obtain ⟨u, hu, eu⟩ := hnt
    have o1 := (gx_oks g).1 x hx
    have o2 := (gx_oks g).1 y hy
    have o3 := (gx_oks g).1 u hu
    simp only [oks, Bool.and_eq_true, decide_eq_true_eq] at o1 o2 o3
    omega
  obtain ⟨ha8, hf8, ht8⟩ := h8
  obtain ⟨kl, hkl⟩ : ∃ kl : Nat, fndL ls f t = (kl : Int) := ⟨(fndL ls f t).toNat, by have := fndL_nn hfl; omega⟩
  have dkl : decide ((kl : Int) < 0) = false := decide_eq_false (by omega)
  have dkl2 : ¬ ((kl : Int) < 0) := by omega
  have HNO := Lib.hid (fun v w2 (g2 : GX w2 va vb vc ns ls) (h : Sl cI 1 0 w2 v [(a : Int), f, t]) => rNodes_ok [(a : Int), f, t] v ns ls va vb vc w2 g2 h (by simp) (by
    intro x hx
    simp only [List.mem_cons, List.not_mem_nil, or_false] at hx
    rcases hx with rfl | rfl | rfl
    · exact hna
    · exact hnf
    · exact hnt))
  have HFL : Hid (∀ w2 (g2 : GX w2 va vb vc ns ls), Calls Try.prog 25 #[.agg #[va, vb, vc], .int .i64 f, .int .i64 t] w2 fun e w' => e = .returned (.int .i64 (kl : Int)) ∧ Below w2.heap.size w2 w') := Lib.hid (fun w2 g2 => by have := rFindLink_ok ns ls va vb vc f t w2 g2.sb (by have := g2.snd.ll; omega); rwa [hkl] at this)
  have HDI := Lib.hid (fun (n : Nat) (hn : n < 128) w2 (g2 : GX w2 va vb vc ns ls) => rDists_ok n ns ls va vb vc w2 g2 hn)
  have HPA := Lib.hid (fun (n : Nat) (hn : n < 128) vd w2 (g2 : GX w2 va vb vc ns ls) d (h : Sl cI 1 0 w2 vd d) (hl : d.length = 128) => rPars_ok n d vd ns ls va vb vc w2 g2 hn h hl)
  have HPB : Hid (∀ d root n, (parsR d root ls 128).getD n 0 < 2 ^ 128) := Lib.hid (fun d root n => parsR_bd (gx_oks g).2 n)
  have HDL : Hid (∀ n, (distR ns.length ls n).length = 128) := Lib.hid (fun n => by unfold distR; rw [itR_len]; simp [startR])
  have HTK := Lib.hid htk
  have HNK := Lib.hid (gx_oks g).1
  have GG := Lib.hid g
  have A8 := Lib.hid ha8
  have F8 := Lib.hid hf8
  have T8 := Lib.hid ht8
  have hn128 := g.len
  obtain ⟨q, hq⟩ : ∃ q, q = farR ns.length ls a tk := ⟨_, rfl⟩
  rw [← hq]
  have HQ := Lib.hid hq
  have haa0 : (0 : Int) ≤ (a : Int) := by omega
  have haa1 : (a : Int) < 128 := by omega
  obtain ⟨A, ca, hva, hrd, -⟩ := g.sa
  obtain ⟨n, hn⟩ : ∃ n, n = ns.length := ⟨_, rfl⟩
  rw [← hn] at hn128 hva
  subst hva
  have HN := Lib.hid hn
  have HRD := Lib.hid hrd
  obtain ⟨va, hva⟩ : ∃ va, va = Value.slice A n ca := ⟨_, rfl⟩
  rw [← hva] at HNO HFL HDI HPA GG ⊢
  have HVA := Lib.hid hva
  clear hna hnf hnt hfl htk g ha8 hf8 ht8 hkl hq hn hrd hva
  obtain ⟨z, hz⟩ : ∃ z, z = w.heap.size := ⟨_, rfl⟩
  have b1 : Below w.heap.size w ((w.alloc (.cells #[va, vb, vc] 33)).alloc (.cells #[.int .u64 0, .int .u64 0] 25)) := ((Below.refl _ _).alloc (Nat.le_refl _) _).alloc (by simp) _
  have k4 : ((w.alloc (.cells #[va, vb, vc] 33)).alloc (.cells #[.int .u64 0, .int .u64 0] 25)).heap[z]? = some (.cells #[va, vb, vc] 33 (0, 0)) := heap_keep ((Below.refl _ _).alloc (Nat.le_refl _) _) (heap_at hz)
  have k8 : ((w.alloc (.cells #[va, vb, vc] 33)).alloc (.cells #[.int .u64 0, .int .u64 0] 25)).heap[z + 1]? = some (.cells #[.int .u64 0, .int .u64 0] 25 (0, 0)) := heap_at (by rw [hz]; simp)
  have hS : ((w.alloc (.cells #[va, vb, vc] 33)).alloc (.cells #[.int .u64 0, .int .u64 0] 25)).heap.size = z + 1 + 1 := by rw [hz]; simp
  have HZ := Lib.hid hz
  have B1 := Lib.hid b1
  have K4 := Lib.hid k4
  have K8 := Lib.hid k8
  clear b1 k4 k8
  go_enter Try.func27, Try.ntmps27
  go_wp2_with (refine wpList_loadL rfl 33 (.tmp 4) rfl w.heap.size 0 (.agg #[va, vb, vc]) rfl (run_loadL (cs := [va, vb, vc]) isAgg33 size33 rfl (AtL_heap (by rw [← HZ.out]; exact K4.out))) ?_)
  rw [← hz]
  clear hz
  generalize ((w.alloc (.cells #[va, vb, vc] 33)).alloc (.cells #[.int .u64 0, .int .u64 0] 25)) = wa at *
  have b2 : Below wa.heap.size wa (wa.alloc (.cells #[.int .i64 a, .int .i64 f, .int .i64 t] 3)) := (Below.refl _ _).alloc (Nat.le_refl _) _
  with_reducible refine (HNO.out _ _ (GG.out.below (bthen B1.out b2)) (SlI3 (n := 0) (heap_at hS.symm))).mono ?_
  rintro e w1 ⟨rfl, hb1⟩
  have C1 := Lib.hid (bthen b2 hb1)
  clear b2 hb1 hS
  go_wp2_with (refine wpList_loadL rfl 33 (.tmp 4) rfl z 0 (.agg #[va, vb, vc]) rfl (run_loadL (cs := [va, vb, vc]) isAgg33 size33 rfl (AtL_heap (heap_keep C1.out K4.out))) ?_)
  with_reducible refine (HFL.out _ (GG.out.below (bthen B1.out C1.out))).mono ?_
  rintro e w2 ⟨rfl, hb2⟩
  have C2 := Lib.hid (bthen C1.out hb2)
  clear hb2 C1
  go_wp2_with fail
  clear dkl dkl2
  obtain ⟨z5, hz5⟩ : ∃ z5, z5 = w2.heap.size := ⟨_, rfl⟩
  have b5 : Below w2.heap.size w2 (w2.alloc (.cells #[] 3)) := (Below.refl _ _).alloc (Nat.le_refl _) _
  have o5 := fresh_row w2 3 1 z5 (by omega)
  rw [← hz5] at o5 ⊢
  have S5 : Hid (z5 ≤ (w2.alloc (.cells #[] 3)).heap.size) := Lib.hid (by simp; omega)
  generalize (w2.alloc (.cells #[] 3)) = w5 at *
  have B5 := Lib.hid b5
  have O5 := Lib.hid o5
  have Z5 := Lib.hid hz5
  clear b5 o5 hz5
  go_loopw [11, 12] (fun u i wr => ∃ (k : Nat) (o : Value), k ≤ n ∧ o = u ∧ i = .int .i64 k ∧ Hid (wr.ownsRow z5 3 1 o (farL q (ns.take k)).length ((farL q (ns.take k)).flatMap cN)) ∧ Hid (Below z5 w5 wr)) (fun _ i _ => n - (intOf i).toNat)
  case atStart => exact ⟨0, _, Nat.zero_le _, rfl, rfl, O5, Lib.hid (Below.refl _ _)⟩
  case round =>
    clear O5
    obtain ⟨k, o, hk, rfl, rfl, ho, hbw⟩ := hrel
    have BW : Hid (Below w2.heap.size w2 wr) := Lib.hid (B5.out.trans (hbw.out.mono (by rw [Z5.out]; exact Nat.le_refl _)))
    have BA : Hid (Below wa.heap.size wa wr) := Lib.hid (bthen C2.out BW.out)
    have KG := Lib.hid (heap_keep BA.out K4.out)
    have y0 : wr.cell? ⟨z, 0, none⟩ = some (.slice A n ca) := by rw [cell_of_row _ _ 0 _ _ _ KG.out, HVA.out]; rfl
    by_cases hlt : k < n
    · have hwk1 : IntKind.i64.wrap ((k : Int) + 1) = (k : Int) + 1 := by rw [IntKind.wrap_i64]; omega
      have hk0 : (0 : Int) ≤ (k : Int) := by omega
      have hkn : (k : Int) < (n : Int) := by omega
      have SB := Lib.hid (Nat.le_trans S5.out hbw.out.size)
      have HL : Hid ((farL q (ns.take k)).length ≤ 1172812402926) := Lib.hid (Nat.le_trans (farL_len ..) (by rw [List.length_take]; omega))
      obtain ⟨x, hx⟩ : ∃ r, ns[k]? = some r := ⟨_, List.getElem?_eq_getElem (by rw [← HN.out]; exact hlt)⟩
      obtain ⟨b0, o0, rfl, hat⟩ := HRD.out k x hx
      have hok := HNK.out x (List.mem_of_getElem? hx)
      have HT1 := Lib.hid (farL_take (q := q) hx)
      have hmem := List.mem_of_getElem? hx
      obtain ⟨xi⟩ := x
      obtain ⟨m, hm⟩ : ∃ m : Nat, xi = (m : Int) := ⟨xi.toNat, by simp only [oks, Bool.and_eq_true, decide_eq_true_eq] at hok; omega⟩
      subst hm
      have hm8 : m < 128 := by simp only [oks, Bool.and_eq_true, decide_eq_true_eq] at hok; omega
      have q0 : wr.cell? ⟨b0, o0 + k * 3, none⟩ = some (.int .i64 (m : Int)) := bcell (bthen B1.out BA.out) (hat 0 _ rfl)
      have HT : Hid (farL q (ns.take (k + 1)) = farL q (ns.take k) ++ (if q m = true then [m] else [])) := Lib.hid (by have := HT1.out; simpa using this)
      clear HT1
      obtain ⟨d, hd⟩ : ∃ d, d = distR ns.length ls m := ⟨_, rfl⟩
      obtain ⟨y, hy⟩ : ∃ y, y = d.getD a 0 := ⟨_, rfl⟩
      have hqm : q m = (decide (y < 1073741824) && !tk m) := by rw [HQ.out, hy, hd]; rfl
      rw [hqm] at HT
      have HTT := Lib.hid (HTK.out m ⟨_, hmem, rfl⟩)
      rw [← hd, ← hy] at HTT
      have hdl := HDL.out m
      rw [← hd] at hdl
      have HDD := Lib.hid (fun w7 (h : Below wr.heap.size wr w7) => HDI.out m hm8 w7 (GG.out.below (bthen (bthen B1.out BA.out) h)))
      rw [← hd] at HDD
      have M8 := Lib.hid hm8
      have HYD := Lib.hid hy
      have HL8 := Lib.hid hdl
      clear hx hat hok hmem hm8 hd hy hqm hdl
      go_wp2_with (refine wpList_loadL rfl 33 (.tmp 4) rfl z 0 (.agg #[va, vb, vc]) rfl (run_loadL (cs := [va, vb, vc]) isAgg33 size33 rfl (AtL_heap KG.out)) ?_)
      with_reducible refine (HDD.out _ (Below.refl _ _)).mono ?_
      rintro e w6 ⟨⟨vd, rfl, ho6⟩, hb6⟩
      obtain ⟨gd, cd, rfl⟩ := own_form ho6 (by omega)
      have SD := Lib.hid (Sl_of_row cI_len (by omega) (own_lower ho6 (Nat.zero_le _)) HL8.out)
      have p0 : w6.cell? ⟨gd, a, none⟩ = some (.int .i64 y) := by rw [ho6.cellAt a (by have := A8.out; omega), flatI_at, getD_some (by rw [HL8.out]; exact A8.out), HYD.out]; rfl
      have OB := Lib.hid (own_below ho.out hb6)
      have BB := Lib.hid (hbw.out.trans (below_low hb6 S5.out hbw.out))
      have SB6 := Lib.hid (Nat.le_trans SB.out hb6.size)
      have B6 := Lib.hid hb6
      have g0 : w6.cell? ⟨z, 0, none⟩ = some va := by rw [cell_of_row _ _ 0 _ _ _ (heap_keep hb6 KG.out)]; rfl
      have g1 : w6.cell? ⟨z, 1, none⟩ = some vb := by rw [cell_of_row _ _ 1 _ _ _ (heap_keep hb6 KG.out)]; rfl
      have g2 : w6.cell? ⟨z, 2, none⟩ = some vc := by rw [cell_of_row _ _ 2 _ _ _ (heap_keep hb6 KG.out)]; rfl
      have GR := Lib.hid (GG.out.below (bthen (bthen B1.out BA.out) hb6))
      clear hb6 ho6 HDD ho hbw q0 y0
      by_cases hlx : y < 1073741824
      · have dlx : decide (y < 1073741824) = true := decide_eq_true hlx
        rw [dlx] at HT
        obtain ⟨F, S, hc, hS, hb⟩ := HTT.out hlx
        obtain ⟨par, hpar⟩ : ∃ par, par = parsR d m ls 128 := ⟨_, rfl⟩
        have HPP := HPA.out m M8.out _ w6 GR.out d SD.out HL8.out
        rw [← hpar] at hc HPP hb
        have HPC := Lib.hid HPP
        have HPL : Hid (par.length = 128) := Lib.hid (by rw [hpar, parsR_l])
        have HPB2 : Hid (∀ n, par.getD n 0 < 2 ^ 128) := Lib.hid (fun n => by rw [hpar]; exact HPB.out _ _ n)
        have HCL := Lib.hid (And.intro hc (And.intro hS hb))
        clear hc hS hb hpar HPP dlx
        go_wp2_with fail
        with_reducible refine (HPC.out).mono ?_
        rintro e w7 ⟨⟨vp, rfl, ho7⟩, hb7⟩
        have SP := Lib.hid (Sl_of_row cM_len (by omega) (own_lower ho7 (Nat.zero_le _)) HPL.out)
        have OB7 := Lib.hid (own_below OB.out hb7)
        have BB7 := Lib.hid (BB.out.trans (below_low hb7 S5.out BB.out))
        have SB7 := Lib.hid (Nat.le_trans SB6.out hb7.size)
        have HCT : Hid (Calls Try.prog 58 #[vp, .int .i64 a, .int .i64 f, .int .i64 t] w7 fun e w' => e = .returned (.bool (tk m)) ∧ Below w7.heap.size w7 w') := Lib.hid (by rw [HCL.out.2.2]; exact rtakes_ok par vp a f t S F w7 SP.out HPL.out HPB2.out A8.out F8.out T8.out HCL.out.1 HCL.out.2.1)
        clear hb7 ho7 p0 g0 g1 g2 HPC
        go_wp2_with fail
        with_reducible refine (HCT.out).mono ?_
        rintro e w8 ⟨rfl, hb8⟩
        have OB8 := Lib.hid (own_below OB7.out hb8)
        have BB8 := Lib.hid (BB7.out.trans (below_low hb8 S5.out BB7.out))
        have SB8 := Lib.hid (Nat.le_trans SB7.out hb8.size)
        clear hb8 HCT
        cases hbt : tk m with
        | true =>
          rw [hbt] at HT
          clear hbt
          go_wp2_with fail
          go_roundw
          case rel => exact ⟨k + 1, _, by omega, rfl, by go_num, by rw [HT.out]; exact Lib.hid (by simpa using OB8.out), BB8⟩
          case measure => simp [intOf]; omega
        | false =>
          rw [hbt] at HT
          clear hbt
          go_wp2_with (at_builtin; refine wpList_appG cN 1 73 3 8 cN_len cN_one (by omega) Try.underlying73 cinfo3 rfl (by omega) rfl (.tmp 64) (.tmp 66) rfl z5 _ o (farL q (ns.take k)) m rfl rfl (own_below OB8.out ((Below.refl _ _).alloc (Nat.le_refl _) _)) (heap_at rfl) HL.out (alloc_le' SB8.out) ?_; intro v9 w9 ho9 hg9; have b9 := app_below OB8.out SB8.out hg9; have O9 := Lib.hid ho9; have B9 := Lib.hid (BB8.out.trans b9); clear ho9 hg9 b9)
          go_roundw
          case rel => exact ⟨k + 1, _, by omega, rfl, by go_num, by rw [HT.out]; exact O9, B9⟩
          case measure => simp [intOf]; omega
      · have dlx : decide (y < 1073741824) = false := decide_eq_false hlx
        rw [dlx] at HT
        go_wp2_with fail
        go_roundw
        case rel => exact ⟨k + 1, _, by omega, rfl, by go_num, by rw [HT.out]; exact Lib.hid (by simpa using OB.out), BB⟩
        case measure => simp [intOf]; omega
    · have hkn : k = n := by omega
      have hkf : ¬ ((k : Int) < (n : Int)) := by omega
      have ho : Hid (wr.ownsRow z5 3 1 o (farL q ns).length ((farL q ns).flatMap cN)) := Lib.hid (by
        have h := ho.out
        rw [List.take_of_length_le (by rw [hkn]; exact Nat.le_of_eq HN.out.symm)] at h
        exact h)
      clear hkn
      have K8R := Lib.hid (heap_keep BA.out K8.out)
      have BWR := Lib.hid (bthen B1.out BA.out)
      have hs := Sl_of_row cN_len (by omega) (own_lower ho.out (Nat.zero_le _)) rfl
      have hco := rOf_ok _ _ _ hs (fun x hx => farL_lt HNK.out hx) (Nat.le_trans (farL_len ..) (by have := HN.out; omega))
      obtain ⟨C, hC⟩ : ∃ C, C = ofM (farL q ns) := ⟨_, rfl⟩
      rw [← hC] at hco
      have HCC := Lib.hid hC
      unfold mV at hco
      have HCO := Lib.hid hco
      clear hs hco hC
      go_wp2_with fail
      with_reducible refine (HCO.out).mono ?_
      rintro e w7 ⟨rfl, hb7⟩
      have B7 := Lib.hid (bthen BWR.out hb7)
      have K7 := Lib.hid (heap_keep hb7 K8R.out)
      clear hb7
      go_wp2_with (first | (refine wpList_storeN rfl 25 (.tmp 8) (.tmp 70) rfl rfl (z + 1) (cM C).toArray rfl rfl 25 _ K7.out cinfo25s rfl (by simp [Value.oneCell', cM]) ?_; intro w9 hz9 hb9 hn9 hs9; have Z9 := Lib.hid hz9; have D9 := Lib.hid (B7.out.trans (hb9 _ (by have := HZ.out; omega))); clear hz9 hb9 hn9 hs9))
      refine bodyPost_ret (results_cell_tmp1' rfl rfl (cldM Z9.out)) rfl ?_
      exact ⟨by rw [← HCC.out]; rfl, D9.out⟩

end Go.Proofs.Ytpklcefiabjplaa
