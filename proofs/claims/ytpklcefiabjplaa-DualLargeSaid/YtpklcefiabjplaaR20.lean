/- The walk along all ways: the fronts as the plain function says; conditions as stated. -/
import Derived.Test.YtpklcefiabjplaaR19
namespace Go.Proofs.Ytpklcefiabjplaa
open Go.ChangeShapes Go.WideShapes Go.ChangeAt Go.RowKit
set_option linter.unusedVariables false
set_option linter.unusedSimpArgs false
attribute [local go_sem] Og.Opt Og.OpY

attribute [local go_sem] Og.Opt Og.OpY

def WInv (w : World) (F E b V : Nat) (vv : List Value) (out : List (List Lk)) (res : List (List (Nat × Nat)) × Int) (f : Nat) (wr : World) : Prop := ∃ xs v fr er vs, Wy b wr v xs ∧ Fx F E wr vs fr er ∧ Vw V wr vv out ∧ Below F w wr ∧ (∀ x ∈ xs, LaS x) ∧ FS fr ∧ walkP out f xs fr er = some res
theorem putP_nil (l : La) : putP [] l = some [l] := by simp [putP, bsP]
set_option maxRecDepth 100000 in
set_option maxHeartbeats 16000000 in
theorem walk_ok (F E : Nat) (a : Int) (fuel : Nat) (ns : List Nd) (ls : List Lk) (va vb vc : Value) (vs0 : List Value) (fr0 res : List (List (Nat × Nat))) (er0 er1 : Int) (w : World) (g : GX w va vb vc ns ls) (H : Fx F E w vs0 fr0 er0) (hfs : FS fr0) (ha : oks a = true) (hw : walkP (viewL ls) fuel [⟨0, 0, a⟩] fr0 er0 = some (res, er1)) :
    Calls Try.prog 43 #[.agg #[va, vb, vc], .int .i64 a, .func (.func 44) #[] #[.pointer (some ⟨F, 0, none⟩), .pointer (some ⟨E, 0, none⟩)]] w fun e w' => e = .returned (.tuple #[]) ∧ Below F w w' ∧ ∃ vs', Fx F E w' vs' res er1 := by
  have HOF := Lib.hid (fun w2 (g : GX w2 va vb vc ns ls) => full_Of_ok ns ls va vb vc w2 g.sa g.sb (by have := g.len; omega) (by have := g.snd.ll; omega) (fun x hx => by
    obtain ⟨i, hi⟩ := List.mem_iff_getElem?.1 hx
    exact oks_rng (g.snd.nr i x hi)) (fun l hl => by
    obtain ⟨i, hi⟩ := List.mem_iff_getElem?.1 hl
    obtain ⟨h1, h2, -⟩ := g.snd.lr i l hi
    exact ⟨oks_rng (g.snd.at h1), oks_rng (g.snd.at h2)⟩))
  have OL := Lib.hid (show ∀ (j : Nat) (xs : List Lk), (viewL ls)[j]? = some xs → xs.length ≤ 20000 from fun j xs hx => Nat.le_trans (viewL_small ls j xs hx) (by have := g.snd.ll; omega))
  have GG := Lib.hid g
  have HF := Lib.hid H
  have FS0 := Lib.hid hfs
  have HA := Lib.hid ha
  have HWK := Lib.hid hw
  obtain ⟨fe, fl⟩ : F < E ∧ E < w.heap.size := ⟨H.fe, H.lt⟩
  have FE := Lib.hid (And.intro fe fl)
  have ba : Below w.heap.size w (w.alloc (.cells #[va, vb, vc] 33)) := (Below.refl _ _).alloc (Nat.le_refl _) _
  have q0 : ∀ j u, [va, vb, vc][j]? = some u → (w.alloc (.cells #[va, vb, vc] 33)).cell? ⟨w.heap.size, j, none⟩ = some u := fun j u hu => by
    rw [cell_of_row _ _ j _ _ _ (heap_at rfl)]; simpa using hu
  have d0 := q0 0 _ rfl
  have d1 := q0 1 _ rfl
  have d2 := q0 2 _ rfl
  have BA := Lib.hid ba
  clear q0 ba g H hfs ha hw fe fl
  go_enter Try.func43, Try.ntmps43
  generalize hW : w.alloc (.cells #[va, vb, vc] 33) = wa at *
  go_wp2_with fail
  with_reducible refine (HOF.out _ (GG.out.below BA.out)).mono ?_
  rintro e wb ⟨⟨V, vv, rfl, hV, HV⟩, hb⟩
  have BB := Lib.hid (bthen BA.out hb)
  have VB := Lib.hid HV
  have VL := Lib.hid (show w.heap.size ≤ V from Nat.le_trans BA.out.size hV)
  clear HV hV hb d0 d1 d2 hW HOF
  obtain ⟨b, hb⟩ : ∃ b, b = wb.heap.size := ⟨_, rfl⟩
  have bw : Below wb.heap.size wb (wb.alloc (.cells #[.slice none 0 0] 131)) := (Below.refl _ _).alloc (Nat.le_refl _) _
  have WY0 := Lib.hid (show Wy b (wb.alloc (.cells #[.slice none 0 0] 131)) (.slice none 0 0) [] from ⟨heap_at hb, World.ownsRow_nil _ _ _ _⟩)
  have BW := Lib.hid bw
  have BLT := Lib.hid (show w.heap.size ≤ b by rw [hb]; exact BB.out.size)
  have VLB := Lib.hid (show V < b by rw [hb]; exact VB.out.lt)
  generalize hW : wb.alloc (.cells #[.slice none 0 0] 131) = wc at *
  have PUT0 := Lib.hid (put_ok [] [⟨0, 0, a⟩] ⟨0, 0, a⟩ b (.slice none 0 0) wc WY0.out (by simp) (fun x hx => by cases hx) ⟨⟨by simp, by simp⟩, HA.out⟩ (putP_nil _))
  have ec : (cLa ⟨0, 0, a⟩).toArray = #[.complex .f64 0 0, .int .i64 a] := by
    show #[Value.complex .f64 (fb 0) (fb 0), .int .i64 a] = _
    rw [fb_zero]
  rw [ec] at PUT0
  clear bw ec
  go_wp2_with fail
  rw [← hb]
  with_reducible refine (PUT0.out).mono ?_
  rintro e wd ⟨rfl, fd, vd, WD, -⟩
  have S0 := Lib.hid (WY0.out.leave (P := fun t => t = 70 ∨ t = 43) fd (by decide) (by decide))
  have S1 := Lib.hid (WY0.out.leave (P := fun t => t = 88 ∨ t = 26 ∨ t = 39) fd (by decide) (by decide))
  have WS : Hid (∃ f, WInv w F E b V vv (viewL ls) (res, er1) f wd) := Lib.hid ⟨fuel, [⟨0, 0, a⟩], vd, fr0, er0, vs0, WD, ((HF.out.below BB.out).below BW.out).sm S1.out, (VB.out.below BW.out).sm S0.out, ((BB.out.mono (by have := FE.out; omega)).trans (BW.out.mono (by have := BB.out.size; have := FE.out; omega))).trans (fd.bel.mono (by have := BLT.out; have := FE.out; omega)), (fun x hx => by simp only [List.mem_cons, List.not_mem_nil, or_false] at hx; subst hx; exact ⟨⟨by simp, by simp⟩, HA.out⟩), FS0.out, HWK.out⟩
  clear fd WD S0 S1 WY0 BW PUT0 hW hb HF FS0 HWK VB
  go_wp2_with fail
  go_loopw [10] (fun _ wr => ∃ f, WInv w F E b V vv (viewL ls) (res, er1) f wr) (fun _ wr => fuelOf fun f => WInv w F E b V vv (viewL ls) (res, er1) f wr)
  case atStart => exact WS.out
  case round =>
    have hF := fuelOf_spec hrel
    obtain ⟨FF, hFe⟩ : ∃ FF, FF = fuelOf (fun f => WInv w F E b V vv (viewL ls) (res, er1) f wr) := ⟨_, rfl⟩
    rw [← hFe] at hF
    have HFE := Lib.hid hFe
    obtain ⟨xs, v, fr, er, vs, WY, FX, VW, BL, hxs, hfs, hwk⟩ := hF
    clear hrel hFe WS
    cases FF with
    | zero => cases hwk
    | succ f =>
      have WYr := Lib.hid WY
      have FXr := Lib.hid FX
      have VWr := Lib.hid VW
      have BLr := Lib.hid BL
      have HXS := Lib.hid hxs
      have HFS := Lib.hid hfs
      cases hgl : xs.getLast? with
      | none =>
        rw [walkP, hgl] at hwk
        have hres : Hid (fr = res ∧ er = er1) := Lib.hid (by cases hwk; exact ⟨rfl, rfl⟩)
        have hx0 : xs = [] := by simpa using hgl
        subst hx0
        have TK := Lib.hid (takeW_none b v wr WY)
        clear hwk hgl WY FX VW BL hxs hfs HFE
        go_wp2_with fail
        with_reducible refine (TK.out).mono ?_
        rintro e w2 ⟨⟨u, rfl⟩, hb2⟩
        have FX2 := Lib.hid (FXr.out.below hb2)
        have BL2 := Lib.hid (BLr.out.trans (hb2.mono (by have := FXr.out.lt; have := FE.out; omega)))
        clear hb2 TK
        go_wp2_with (refine wpList_storeN rfl 91 (.tmp 8) (.tmp 25) rfl rfl w2.heap.size #[.complex .f64 0 0, .int .i64 u] rfl rfl 91 _ (heap_at rfl) info91s rfl (by simp [Value.oneCell']) ?_; intro w3 hz hbb hn hs3; have b3 := below_storeA hbb; have FX3 := Lib.hid (FX2.out.below b3); have BL3 := Lib.hid (BL2.out.trans (b3.mono (by have := FX2.out.lt; have := FE.out; omega))); clear hz hbb hn hs3 b3)
        try simp only [Exit.then, Exit.inBlock]
        refine bodyPost_ret (results_none rfl _ _ _) rfl ?_
        exact ⟨rfl, BL3.out, _, by rw [← hres.out.1, ← hres.out.2]; exact FX3.out⟩
      | some l =>
        rw [walkP, hgl] at hwk
        simp only at hwk
        split at hwk
        · rename_i hlen
          split at hwk
          · rename_i fl hfl
            have hxm := List.mem_of_getLast? hgl
            obtain ⟨ln, hln⟩ : ∃ ln, xs.length = ln + 1 := ⟨xs.length - 1, by have := List.length_pos_of_mem hxm; omega⟩
            have hxl : xs[ln]? = some l := by rw [List.getLast?_eq_getElem?, hln] at hgl; exact hgl
            have hll := hxs l hxm
            have TK := Lib.hid (takeW_ok b v wr xs l ln WY hln hxl (by omega))
            have hdl : xs.dropLast = xs.take ln := by rw [List.dropLast_eq_take, hln]; rfl
            rw [hdl] at hwk
            have HWK := Lib.hid hwk
            have HLL := Lib.hid hll
            have HFL := Lib.hid hfl
            have HXT := Lib.hid (show ∀ x ∈ xs.take ln, LaS x from fun x hx => hxs x (List.mem_of_mem_take hx))
            have hsm := (hfs _ fl hfl)
            have HKP := Lib.hid (fun w2 vs2 (H : Fx F E w2 vs2 fr er) => keep_ok F E w2 vs2 fr er l fl H hll hfl hsm.2 (by omega))
            have HFS2 := Lib.hid (keepP_FS hfs hll hfl : FS (keepP fr er l fl).1)
            have ho := hll.2
            simp only [oks, Bool.and_eq_true, decide_eq_true_eq] at ho
            obtain ⟨m, hm⟩ : ∃ m : Nat, l.n = (m : Int) := ⟨l.n.toNat, by omega⟩
            have MN := Lib.hid hm
            have hm0 : (0 : Int) ≤ (m : Int) := by omega
            have hm1 : (m : Int) < 128 := by omega
            have M8 := Lib.hid (show m < 128 by omega)
            clear hwk hgl WY FX VW BL hxs hfs hlen hxm hln hxl hdl hll hfl hsm ho hm
            go_wp2_with fail
            with_reducible refine (TK.out).mono ?_
            rintro e w2 ⟨rfl, f2, v2, W2, ov2⟩
            have s1 := WYr.out.leave (P := fun t => t = 70 ∨ t = 43) f2 (by decide) (by decide)
            have s2 := WYr.out.leave (P := fun t => t = 88 ∨ t = 26 ∨ t = 39) f2 (by decide) (by decide)
            have WY2 := Lib.hid W2
            have FX2 := Lib.hid (FXr.out.sm s2)
            have VW2 := Lib.hid (VWr.out.sm s1)
            have BL2 := Lib.hid (BLr.out.trans (f2.bel.mono (by have := BLT.out; have := FE.out; omega)))
            clear s1 s2 f2 W2 ov2 TK WYr FXr VWr BLr
            go_wp2_with (first | (refine wpList_storeN rfl 91 (.tmp 8) (.tmp 25) rfl rfl w2.heap.size (cLa l).toArray rfl rfl 91 _ (heap_at rfl) info91s rfl (by simp [Value.oneCell', cLa]) ?_; intro w3 hz hbb hn hs3; have b3 := below_storeA hbb; have Z3 := Lib.hid hz; have WY3 := Lib.hid (WY2.out.below b3); have FX3 := Lib.hid (FX2.out.below b3); have VW3 := Lib.hid (VW2.out.below b3); have BL3 := Lib.hid (BL2.out.trans (b3.mono (by have := FX2.out.lt; have := FE.out; omega))); have S3 := Lib.hid b3.size; clear hz hbb hn hs3 b3) | (refine wpList_loadL rfl 91 (.tmp 8) rfl w2.heap.size 0 (.agg (cLa l).toArray) rfl (ldLa Z3.out) ?_))
            obtain ⟨z8, hz8⟩ : ∃ z8, z8 = w2.heap.size := ⟨_, rfl⟩
            rw [← hz8]
            have Z3' : Hid (w3.heap[z8]? = some (.cells (cLa l).toArray 91 (0, 0))) := Lib.hid (by rw [hz8]; exact Z3.out)
            have Z8 : Hid (E < z8 ∧ b < z8 ∧ v2.ownBlock ≠ some z8) := Lib.hid (by
              have h1 := FX2.out.lt
              have h2 := WY2.out.lt
              refine ⟨by omega, by omega, fun e => ?_⟩
              have := (WY2.out.own.lt _ e).2
              omega)
            clear hz8 Z3
            with_reducible refine (HKP.out w3 _ FX3.out).mono ?_
            rintro e w4 ⟨rfl, kf, vs4, FX4⟩
            have s1 := Kf.leave (P := fun t => t = 70 ∨ t = 43) FX3.out kf (by decide) (by decide) (by decide)
            have s2 := Kf.leave (P := fun t => t = 131 ∨ t = 91) FX3.out kf (by decide) (by decide) (by decide)
            have WY4 := Lib.hid (WY3.out.sm s2)
            have VW4 := Lib.hid (VW3.out.sm s1)
            have FX4' := Lib.hid FX4
            have BL4 := Lib.hid (BL3.out.trans kf.bel)
            have Z4 := Lib.hid (kf.oth z8 _ 91 Z3'.out (by decide) (by have := Z8.out; have := FE.out; omega) (by have := Z8.out; omega))
            clear s1 s2 kf FX4 HKP WY3 VW3 FX3 BL3 Z3' WY2 FX2 VW2 BL2 S3
            have qn : w4.cell? ⟨z8, 1, none⟩ = some (.int .i64 (m : Int)) := by rw [cell_of_row w4 _ 1 _ _ _ Z4.out, ← MN.out]; rfl
            cases hst : (keepP fr er l fl).2.2.2 with
            | true =>
              have hw := HWK.out
              rw [hst, if_pos rfl] at hw
              have hres : Hid ((keepP fr er l fl).1 = res ∧ (keepP fr er l fl).2.1 = er1) := Lib.hid (by cases hw; exact ⟨rfl, rfl⟩)
              clear hst hw
              go_wp2_with fail
              try simp only [Exit.then, Exit.inBlock]
              refine bodyPost_ret (results_none rfl _ _ _) rfl ?_
              exact ⟨rfl, BL4.out, _, by rw [← hres.out.1, ← hres.out.2]; exact FX4'.out⟩
            | false =>
              have hw := HWK.out
              rw [hst, if_neg (by decide)] at hw
              have HC : ∀ w5, Below w4.heap.size w4 w5 → w5.cell? ⟨z8, 1, none⟩ = some (.int .i64 (m : Int)) := fun w5 h5 => bcell h5 qn
              cases hmo : (keepP fr er l fl).2.2.1 with
              | false =>
                rw [hmo, if_neg (by decide)] at hw
                have HW2 := Lib.hid hw
                clear hst hmo hw qn
                go_wp2_with fail
                refine Og.walk_lit [[],[0],[1,0],[2,1,0],[3,2,1,0],[2,1,0],[4,5,2,3,1,0],[6,2,4,5,3,1,0],[7,6,2,4,5,3,1,0],[7,6,2,4,5,3,1,0],[9,7,6,2,4,5,3,1,0],[8,7,6,2,4,5,3,1,0],[11,7,8,6,2,4,5,3,1,0],[12,10,7,11,8,6,2,4,5,3,1,0,9],[13,7,12,10,11,8,6,2,4,5,3,1,0,9],[7,14,2,6,4,5,3,1,0,13,12,10,11,8,9],[2,15,1,0,7,14,6,4,5,3,13,12,10,11,8,9]] (fun w2 => Below w4.heap.size w4 w2) (fun w1 w2 => Below w1.heap.size w1 w2) (by kernel_rfl) (by kernel_rfl) (bdrew) ?_
                refine Og.step_pure (fun _ => Below.refl _ _) ?_; apply Exists.intro; refine And.intro ?_ ?_; focus (intro vs w2 hC hk; have hm := HC w2 hC; revert hk; simp only [Og.KS, Og.K0, Og.Is, List.getD_cons_zero, List.getD_cons_succ, List.getD_nil, List.contains_cons, List.contains_nil, Nat.reduceAdd, Nat.reduceBEq, Bool.or_false, Bool.false_or, Bool.or_true, Bool.true_or, Bool.false_eq_true, false_implies, true_implies, true_and, and_true, forall_const]; intros; go_simp; exact rfl)
                refine Og.step_pure (fun _ => Below.refl _ _) ?_; apply Exists.intro; refine And.intro ?_ ?_; focus (intro vs w2 hC hk; have hm := HC w2 hC; revert hk; simp only [Og.KS, Og.K0, Og.Is, List.getD_cons_zero, List.getD_cons_succ, List.getD_nil, List.contains_cons, List.contains_nil, Nat.reduceAdd, Nat.reduceBEq, Bool.or_false, Bool.false_or, Bool.or_true, Bool.true_or, Bool.false_eq_true, false_implies, true_implies, true_and, and_true, forall_const]; intros; go_simp; exact rfl)
                refine Og.step_pure (fun _ => Below.refl _ _) ?_; apply Exists.intro; refine And.intro ?_ ?_; focus (intro vs w2 hC hk; have hm := HC w2 hC; revert hk; simp only [Og.KS, Og.K0, Og.Is, List.getD_cons_zero, List.getD_cons_succ, List.getD_nil, List.contains_cons, List.contains_nil, Nat.reduceAdd, Nat.reduceBEq, Bool.or_false, Bool.false_or, Bool.or_true, Bool.true_or, Bool.false_eq_true, false_implies, true_implies, true_and, and_true, forall_const]; intros; go_simp; exact rfl)
                refine Og.step_pure (fun _ => Below.refl _ _) ?_; apply Exists.intro; refine And.intro ?_ ?_; focus (intro vs w2 hC hk; have hm := HC w2 hC; revert hk; simp only [Og.KS, Og.K0, Og.Is, List.getD_cons_zero, List.getD_cons_succ, List.getD_nil, List.contains_cons, List.contains_nil, Nat.reduceAdd, Nat.reduceBEq, Bool.or_false, Bool.false_or, Bool.or_true, Bool.true_or, Bool.false_eq_true, false_implies, true_implies, true_and, and_true, forall_const]; intros; go_simp; exact rfl)
                refine Og.step_pure (fun _ => Below.refl _ _) ?_; apply Exists.intro; refine And.intro ?_ ?_; focus (intro vs w2 hC hk; have hm := HC w2 hC; revert hk; simp only [Og.KS, Og.K0, Og.Is, List.getD_cons_zero, List.getD_cons_succ, List.getD_nil, List.contains_cons, List.contains_nil, Nat.reduceAdd, Nat.reduceBEq, Bool.or_false, Bool.false_or, Bool.or_true, Bool.true_or, Bool.false_eq_true, false_implies, true_implies, true_and, and_true, forall_const]; intros; go_simp; exact rfl)
                refine Og.step_pure (fun _ => Below.refl _ _) ?_; apply Exists.intro; refine And.intro ?_ ?_; focus (intro vs w2 hC hk; have hm := HC w2 hC; revert hk; simp only [Og.KS, Og.K0, Og.Is, List.getD_cons_zero, List.getD_cons_succ, List.getD_nil, List.contains_cons, List.contains_nil, Nat.reduceAdd, Nat.reduceBEq, Bool.or_false, Bool.false_or, Bool.or_true, Bool.true_or, Bool.false_eq_true, false_implies, true_implies, true_and, and_true, forall_const]; intros; go_simp; exact rfl)
                refine Og.step_pure (fun _ => Below.refl _ _) ?_; apply Exists.intro; refine And.intro ?_ ?_; focus (intro vs w2 hC hk; have hm := HC w2 hC; revert hk; simp only [Og.KS, Og.K0, Og.Is, List.getD_cons_zero, List.getD_cons_succ, List.getD_nil, List.contains_cons, List.contains_nil, Nat.reduceAdd, Nat.reduceBEq, Bool.or_false, Bool.false_or, Bool.or_true, Bool.true_or, Bool.false_eq_true, false_implies, true_implies, true_and, and_true, forall_const]; intros; go_simp; exact rfl)
                refine Og.step_pure (fun _ => Below.refl _ _) ?_; apply Exists.intro; refine And.intro ?_ ?_; focus (intro vs w2 hC hk; have hm := HC w2 hC; revert hk; simp only [Og.KS, Og.K0, Og.Is, List.getD_cons_zero, List.getD_cons_succ, List.getD_nil, List.contains_cons, List.contains_nil, Nat.reduceAdd, Nat.reduceBEq, Bool.or_false, Bool.false_or, Bool.or_true, Bool.true_or, Bool.false_eq_true, false_implies, true_implies, true_and, and_true, forall_const]; intros; go_simp; exact rfl)
                refine Og.step_pure (fun _ => Below.refl _ _) ?_; apply Exists.intro; refine And.intro ?_ ?_; focus (intro vs w2 hC hk; have hm := HC w2 hC; revert hk; simp only [Og.KS, Og.K0, Og.Is, List.getD_cons_zero, List.getD_cons_succ, List.getD_nil, List.contains_cons, List.contains_nil, Nat.reduceAdd, Nat.reduceBEq, Bool.or_false, Bool.false_or, Bool.or_true, Bool.true_or, Bool.false_eq_true, false_implies, true_implies, true_and, and_true, forall_const]; intros; go_simp; exact rfl)
                refine Og.step_pure (fun _ => Below.refl _ _) ?_; apply Exists.intro; refine And.intro ?_ ?_; focus (intro vs w2 hC hk; have hm := HC w2 hC; revert hk; simp only [Og.KS, Og.K0, Og.Is, List.getD_cons_zero, List.getD_cons_succ, List.getD_nil, List.contains_cons, List.contains_nil, Nat.reduceAdd, Nat.reduceBEq, Bool.or_false, Bool.false_or, Bool.or_true, Bool.true_or, Bool.false_eq_true, false_implies, true_implies, true_and, and_true, forall_const]; intros; go_simp; exact rfl)
                refine Og.step_pure (fun _ => Below.refl _ _) ?_; apply Exists.intro; refine And.intro ?_ ?_; focus (intro vs w2 hC hk; have hm := HC w2 hC; revert hk; simp only [Og.KS, Og.K0, Og.Is, List.getD_cons_zero, List.getD_cons_succ, List.getD_nil, List.contains_cons, List.contains_nil, Nat.reduceAdd, Nat.reduceBEq, Bool.or_false, Bool.false_or, Bool.or_true, Bool.true_or, Bool.false_eq_true, false_implies, true_implies, true_and, and_true, forall_const]; intros; go_simp; exact rfl)
                refine Og.step_pure (fun _ => Below.refl _ _) ?_; apply Exists.intro; refine And.intro ?_ ?_; focus (intro vs w2 hC hk; have hm := HC w2 hC; revert hk; simp only [Og.KS, Og.K0, Og.Is, List.getD_cons_zero, List.getD_cons_succ, List.getD_nil, List.contains_cons, List.contains_nil, Nat.reduceAdd, Nat.reduceBEq, Bool.or_false, Bool.false_or, Bool.or_true, Bool.true_or, Bool.false_eq_true, false_implies, true_implies, true_and, and_true, forall_const]; intros; go_simp; exact rfl)
                refine Og.step_pure (fun _ => Below.refl _ _) ?_; apply Exists.intro; refine And.intro ?_ ?_; focus (intro vs w2 hC hk; have hm := HC w2 hC; revert hk; simp only [Og.KS, Og.K0, Og.Is, List.getD_cons_zero, List.getD_cons_succ, List.getD_nil, List.contains_cons, List.contains_nil, Nat.reduceAdd, Nat.reduceBEq, Bool.or_false, Bool.false_or, Bool.or_true, Bool.true_or, Bool.false_eq_true, false_implies, true_implies, true_and, and_true, forall_const]; intros; go_simp; exact rfl)
                refine Og.step_pure (fun _ => Below.refl _ _) ?_; apply Exists.intro; refine And.intro ?_ ?_; focus (intro vs w2 hC hk; have hm := HC w2 hC; revert hk; simp only [Og.KS, Og.K0, Og.Is, List.getD_cons_zero, List.getD_cons_succ, List.getD_nil, List.contains_cons, List.contains_nil, Nat.reduceAdd, Nat.reduceBEq, Bool.or_false, Bool.false_or, Bool.or_true, Bool.true_or, Bool.false_eq_true, false_implies, true_implies, true_and, and_true, forall_const]; intros; go_simp; exact rfl)
                refine Og.step_pure (fun _ => Below.refl _ _) ?_; apply Exists.intro; refine And.intro ?_ ?_; focus (intro vs w2 hC hk; have hm := HC w2 hC; revert hk; simp only [Og.KS, Og.K0, Og.Is, List.getD_cons_zero, List.getD_cons_succ, List.getD_nil, List.contains_cons, List.contains_nil, Nat.reduceAdd, Nat.reduceBEq, Bool.or_false, Bool.false_or, Bool.or_true, Bool.true_or, Bool.false_eq_true, false_implies, true_implies, true_and, and_true, forall_const]; intros; go_simp; exact rfl)
                refine Og.step_pure (fun _ => Below.refl _ _) ?_; apply Exists.intro; refine And.intro ?_ ?_; focus (intro vs w2 hC hk; have hm := HC w2 hC; revert hk; simp only [Og.KS, Og.K0, Og.Is, List.getD_cons_zero, List.getD_cons_succ, List.getD_nil, List.contains_cons, List.contains_nil, Nat.reduceAdd, Nat.reduceBEq, Bool.or_false, Bool.false_or, Bool.or_true, Bool.true_or, Bool.false_eq_true, false_implies, true_implies, true_and, and_true, forall_const]; intros; go_simp; exact rfl)
                refine Og.step_pure (fun _ => Below.refl _ _) ?_; apply Exists.intro; refine And.intro ?_ ?_; focus (intro vs w2 hC hk; have hm := HC w2 hC; revert hk; simp only [Og.KS, Og.K0, Og.Is, List.getD_cons_zero, List.getD_cons_succ, List.getD_nil, List.contains_cons, List.contains_nil, Nat.reduceAdd, Nat.reduceBEq, Bool.or_false, Bool.false_or, Bool.or_true, Bool.true_or, Bool.false_eq_true, false_implies, true_implies, true_and, and_true, forall_const]; intros; go_simp; exact rfl)
                intro vS w5 hC hk
                simp only [Og.KS, Og.K0, Og.Is, List.getD_cons_zero, List.getD_cons_succ, List.getD_nil, List.contains_cons, List.contains_nil, Nat.reduceAdd, Nat.reduceBEq, Bool.or_false, Bool.false_or, Bool.or_true, Bool.true_or, Bool.false_eq_true, false_implies, true_implies, true_and, and_true, forall_const] at hk
                simp only [hk, Act.put, List.setIfInBounds_toArray, List.set_cons_zero, List.set_cons_succ]
                have WN : Hid (WInv w F E b V vv (viewL ls) (res, er1) f w5) := Lib.hid ⟨_, _, _, _, _, WY4.out.below hC, FX4'.out.below hC, VW4.out.below hC, BL4.out.trans (hC.mono (by have := FX4'.out.lt; have := FE.out; omega)), HXT.out, HFS2.out, HW2.out⟩
                clear hk hC HC
                go_wp2_with fail
                exact ⟨⟨f, WN.out⟩, Nat.lt_of_le_of_lt (fuelOf_le WN.out) (by have := HFE.out; omega)⟩
              | true =>
                rw [hmo, if_pos rfl] at hw
                split at hw
                · rename_i ks hks
                  rw [Option.bind_eq_some_iff] at hw
                  obtain ⟨ys, hys, hw⟩ := hw
                  rw [MN.out, Int.toNat_natCast] at hks
                  have HW2 := Lib.hid hw
                  have HYS := Lib.hid hys
                  have KS0 := Lib.hid hks
                  obtain ⟨vo, hvo, hown⟩ := VW4.out.at_ hks
                  obtain ⟨A, cc, hvl, -⟩ := Sl_of_row cLk_len (by omega) hown rfl
                  have sl := VW4.out.slot hvo
                  obtain ⟨nl, hnl⟩ : ∃ nl, nl = ks.length := ⟨_, rfl⟩
                  rw [hvl, ← hnl] at sl
                  have NL := Lib.hid hnl
                  have HVO := Lib.hid (And.intro hvo (hvl.trans (by rw [← hnl])))
                  have nll : Hid (nl ≤ 20000) := Lib.hid (by rw [hnl]; exact OL.out m ks hks)
                  have ov := VW4.out.over M8.out
                  have HC : ∀ w5, Below w4.heap.size w4 w5 → w5.cell? ⟨z8, 1, none⟩ = some (.int .i64 (m : Int)) ∧ w5.cell? ⟨V, m, none⟩ = some (.bool false) ∧ w5.cell? ⟨V, 128 + m, none⟩ = some (.slice A nl cc) := fun w5 h5 => ⟨bcell h5 qn, bcell h5 ov, bcell h5 sl⟩
                  clear hst hmo hw qn hys hks hvo hown hvl hnl sl ov
                  have ROUND : Hid (∀ w5, Below w4.heap.size w4 w5 → True) := Lib.hid (fun _ _ => trivial)
                  by_cases hma : (m : Int) = a
                  · subst hma
                    go_wp2_with fail
                    refine Og.walk_lit [[],[0],[1,0],[2,1,0],[3,2,1,0],[2,1,0],[4,5,2,3,1,0],[6,2,4,5,3,1,0],[7,6,2,4,5,3,1,0],[7,6,2,4,5,3,1,0],[9,7,6,2,4,5,3,1,0],[8,7,6,2,4,5,3,1,0],[11,7,8,6,2,4,5,3,1,0],[12,10,7,11,8,6,2,4,5,3,1,0,9],[13,7,12,10,11,8,6,2,4,5,3,1,0,9],[7,14,2,6,4,5,3,1,0,13,12,10,11,8,9],[2,15,1,0,7,14,6,4,5,3,13,12,10,11,8,9]] (fun w2 => Below w4.heap.size w4 w2) (fun w1 w2 => Below w1.heap.size w1 w2) (by kernel_rfl) (by kernel_rfl) (bdrew) ?_
                    refine Og.step_pure (fun _ => Below.refl _ _) ?_; apply Exists.intro; refine And.intro ?_ ?_; focus (intro vs w2 hC hk; have hm := HC w2 hC; revert hk; simp only [Og.KS, Og.K0, Og.Is, List.getD_cons_zero, List.getD_cons_succ, List.getD_nil, List.contains_cons, List.contains_nil, Nat.reduceAdd, Nat.reduceBEq, Bool.or_false, Bool.false_or, Bool.or_true, Bool.true_or, Bool.false_eq_true, false_implies, true_implies, true_and, and_true, forall_const]; intros; go_simp; exact rfl)
                    refine Og.step_pure (fun _ => Below.refl _ _) ?_; apply Exists.intro; refine And.intro ?_ ?_; focus (intro vs w2 hC hk; have hm := HC w2 hC; revert hk; simp only [Og.KS, Og.K0, Og.Is, List.getD_cons_zero, List.getD_cons_succ, List.getD_nil, List.contains_cons, List.contains_nil, Nat.reduceAdd, Nat.reduceBEq, Bool.or_false, Bool.false_or, Bool.or_true, Bool.true_or, Bool.false_eq_true, false_implies, true_implies, true_and, and_true, forall_const]; intros; go_simp; exact rfl)
                    refine Og.step_pure (fun _ => Below.refl _ _) ?_; apply Exists.intro; refine And.intro ?_ ?_; focus (intro vs w2 hC hk; have hm := HC w2 hC; revert hk; simp only [Og.KS, Og.K0, Og.Is, List.getD_cons_zero, List.getD_cons_succ, List.getD_nil, List.contains_cons, List.contains_nil, Nat.reduceAdd, Nat.reduceBEq, Bool.or_false, Bool.false_or, Bool.or_true, Bool.true_or, Bool.false_eq_true, false_implies, true_implies, true_and, and_true, forall_const]; intros; go_simp; exact rfl)
                    refine Og.step_pure (fun _ => Below.refl _ _) ?_; apply Exists.intro; refine And.intro ?_ ?_; focus (intro vs w2 hC hk; have hm := HC w2 hC; revert hk; simp only [Og.KS, Og.K0, Og.Is, List.getD_cons_zero, List.getD_cons_succ, List.getD_nil, List.contains_cons, List.contains_nil, Nat.reduceAdd, Nat.reduceBEq, Bool.or_false, Bool.false_or, Bool.or_true, Bool.true_or, Bool.false_eq_true, false_implies, true_implies, true_and, and_true, forall_const]; intros; go_simp; exact rfl)
                    refine Og.step_pure (fun _ => Below.refl _ _) ?_; apply Exists.intro; refine And.intro ?_ ?_; focus (intro vs w2 hC hk; have hm := HC w2 hC; revert hk; simp only [Og.KS, Og.K0, Og.Is, List.getD_cons_zero, List.getD_cons_succ, List.getD_nil, List.contains_cons, List.contains_nil, Nat.reduceAdd, Nat.reduceBEq, Bool.or_false, Bool.false_or, Bool.or_true, Bool.true_or, Bool.false_eq_true, false_implies, true_implies, true_and, and_true, forall_const]; intros; go_simp; exact rfl)
                    refine Og.step_pure (fun _ => Below.refl _ _) ?_; apply Exists.intro; refine And.intro ?_ ?_; focus (intro vs w2 hC hk; have hm := HC w2 hC; revert hk; simp only [Og.KS, Og.K0, Og.Is, List.getD_cons_zero, List.getD_cons_succ, List.getD_nil, List.contains_cons, List.contains_nil, Nat.reduceAdd, Nat.reduceBEq, Bool.or_false, Bool.false_or, Bool.or_true, Bool.true_or, Bool.false_eq_true, false_implies, true_implies, true_and, and_true, forall_const]; intros; go_simp; exact rfl)
                    refine Og.step_pure (fun _ => Below.refl _ _) ?_; apply Exists.intro; refine And.intro ?_ ?_; focus (intro vs w2 hC hk; have hm := HC w2 hC; revert hk; simp only [Og.KS, Og.K0, Og.Is, List.getD_cons_zero, List.getD_cons_succ, List.getD_nil, List.contains_cons, List.contains_nil, Nat.reduceAdd, Nat.reduceBEq, Bool.or_false, Bool.false_or, Bool.or_true, Bool.true_or, Bool.false_eq_true, false_implies, true_implies, true_and, and_true, forall_const]; intros; go_simp; exact rfl)
                    refine Og.step_pure (fun _ => Below.refl _ _) ?_; apply Exists.intro; refine And.intro ?_ ?_; focus (intro vs w2 hC hk; have hm := HC w2 hC; revert hk; simp only [Og.KS, Og.K0, Og.Is, List.getD_cons_zero, List.getD_cons_succ, List.getD_nil, List.contains_cons, List.contains_nil, Nat.reduceAdd, Nat.reduceBEq, Bool.or_false, Bool.false_or, Bool.or_true, Bool.true_or, Bool.false_eq_true, false_implies, true_implies, true_and, and_true, forall_const]; intros; go_simp; exact rfl)
                    refine Og.step_pure (fun _ => Below.refl _ _) ?_; apply Exists.intro; refine And.intro ?_ ?_; focus (intro vs w2 hC hk; have hm := HC w2 hC; revert hk; simp only [Og.KS, Og.K0, Og.Is, List.getD_cons_zero, List.getD_cons_succ, List.getD_nil, List.contains_cons, List.contains_nil, Nat.reduceAdd, Nat.reduceBEq, Bool.or_false, Bool.false_or, Bool.or_true, Bool.true_or, Bool.false_eq_true, false_implies, true_implies, true_and, and_true, forall_const]; intros; go_simp; exact rfl)
                    refine Og.step_pure (fun _ => Below.refl _ _) ?_; apply Exists.intro; refine And.intro ?_ ?_; focus (intro vs w2 hC hk; have hm := HC w2 hC; revert hk; simp only [Og.KS, Og.K0, Og.Is, List.getD_cons_zero, List.getD_cons_succ, List.getD_nil, List.contains_cons, List.contains_nil, Nat.reduceAdd, Nat.reduceBEq, Bool.or_false, Bool.false_or, Bool.or_true, Bool.true_or, Bool.false_eq_true, false_implies, true_implies, true_and, and_true, forall_const]; intros; go_simp; exact rfl)
                    refine Og.step_pure (fun _ => Below.refl _ _) ?_; apply Exists.intro; refine And.intro ?_ ?_; focus (intro vs w2 hC hk; have hm := HC w2 hC; revert hk; simp only [Og.KS, Og.K0, Og.Is, List.getD_cons_zero, List.getD_cons_succ, List.getD_nil, List.contains_cons, List.contains_nil, Nat.reduceAdd, Nat.reduceBEq, Bool.or_false, Bool.false_or, Bool.or_true, Bool.true_or, Bool.false_eq_true, false_implies, true_implies, true_and, and_true, forall_const]; intros; go_simp; exact rfl)
                    refine Og.step_pure (fun _ => Below.refl _ _) ?_; apply Exists.intro; refine And.intro ?_ ?_; focus (intro vs w2 hC hk; have hm := HC w2 hC; revert hk; simp only [Og.KS, Og.K0, Og.Is, List.getD_cons_zero, List.getD_cons_succ, List.getD_nil, List.contains_cons, List.contains_nil, Nat.reduceAdd, Nat.reduceBEq, Bool.or_false, Bool.false_or, Bool.or_true, Bool.true_or, Bool.false_eq_true, false_implies, true_implies, true_and, and_true, forall_const]; intros; go_simp; exact rfl)
                    refine Og.step_pure (fun _ => Below.refl _ _) ?_; apply Exists.intro; refine And.intro ?_ ?_; focus (intro vs w2 hC hk; have hm := HC w2 hC; revert hk; simp only [Og.KS, Og.K0, Og.Is, List.getD_cons_zero, List.getD_cons_succ, List.getD_nil, List.contains_cons, List.contains_nil, Nat.reduceAdd, Nat.reduceBEq, Bool.or_false, Bool.false_or, Bool.or_true, Bool.true_or, Bool.false_eq_true, false_implies, true_implies, true_and, and_true, forall_const]; intros; go_simp; exact rfl)
                    refine Og.step_pure (fun _ => Below.refl _ _) ?_; apply Exists.intro; refine And.intro ?_ ?_; focus (intro vs w2 hC hk; have hm := HC w2 hC; revert hk; simp only [Og.KS, Og.K0, Og.Is, List.getD_cons_zero, List.getD_cons_succ, List.getD_nil, List.contains_cons, List.contains_nil, Nat.reduceAdd, Nat.reduceBEq, Bool.or_false, Bool.false_or, Bool.or_true, Bool.true_or, Bool.false_eq_true, false_implies, true_implies, true_and, and_true, forall_const]; intros; go_simp; exact rfl)
                    refine Og.step_pure (fun _ => Below.refl _ _) ?_; apply Exists.intro; refine And.intro ?_ ?_; focus (intro vs w2 hC hk; have hm := HC w2 hC; revert hk; simp only [Og.KS, Og.K0, Og.Is, List.getD_cons_zero, List.getD_cons_succ, List.getD_nil, List.contains_cons, List.contains_nil, Nat.reduceAdd, Nat.reduceBEq, Bool.or_false, Bool.false_or, Bool.or_true, Bool.true_or, Bool.false_eq_true, false_implies, true_implies, true_and, and_true, forall_const]; intros; go_simp; exact rfl)
                    refine Og.step_pure (fun _ => Below.refl _ _) ?_; apply Exists.intro; refine And.intro ?_ ?_; focus (intro vs w2 hC hk; have hm := HC w2 hC; revert hk; simp only [Og.KS, Og.K0, Og.Is, List.getD_cons_zero, List.getD_cons_succ, List.getD_nil, List.contains_cons, List.contains_nil, Nat.reduceAdd, Nat.reduceBEq, Bool.or_false, Bool.false_or, Bool.or_true, Bool.true_or, Bool.false_eq_true, false_implies, true_implies, true_and, and_true, forall_const]; intros; go_simp; exact rfl)
                    refine Og.step_pure (fun _ => Below.refl _ _) ?_; apply Exists.intro; refine And.intro ?_ ?_; focus (intro vs w2 hC hk; have hm := HC w2 hC; revert hk; simp only [Og.KS, Og.K0, Og.Is, List.getD_cons_zero, List.getD_cons_succ, List.getD_nil, List.contains_cons, List.contains_nil, Nat.reduceAdd, Nat.reduceBEq, Bool.or_false, Bool.false_or, Bool.or_true, Bool.true_or, Bool.false_eq_true, false_implies, true_implies, true_and, and_true, forall_const]; intros; go_simp; exact rfl)
                    intro vS w5 hC hk
                    simp only [Og.KS, Og.K0, Og.Is, List.getD_cons_zero, List.getD_cons_succ, List.getD_nil, List.contains_cons, List.contains_nil, Nat.reduceAdd, Nat.reduceBEq, Bool.or_false, Bool.false_or, Bool.or_true, Bool.true_or, Bool.false_eq_true, false_implies, true_implies, true_and, and_true, forall_const] at hk
                    simp only [hk, Act.put, List.setIfInBounds_toArray, List.set_cons_zero, List.set_cons_succ]
                    have WY5 := Lib.hid (WY4.out.below hC)
                    have FX5 := Lib.hid (FX4'.out.below hC)
                    have VW5 := Lib.hid (VW4.out.below hC)
                    have BL5 := Lib.hid (BL4.out.trans (hC.mono (by have := FX4'.out.lt; have := FE.out; omega)))
                    have Z5 := Lib.hid (heap_keep hC Z4.out)
                    obtain ⟨qn, -, sl⟩ := HC w5 hC
                    clear hk hC HC WY4 FX4' VW4 BL4 Z4
                    have HC : ∀ w6, Below w5.heap.size w5 w6 → w6.cell? ⟨z8, 1, none⟩ = some (.int .i64 (m : Int)) ∧ w6.cell? ⟨V, 128 + m, none⟩ = some (.slice A nl cc) := fun w6 h6 => ⟨bcell h6 qn, bcell h6 sl⟩
                    clear qn sl
                    go_wp2_with fail
                    refine Og.walk_lit [[],[],[1],[0],[3,0],[4,2,3,0,1],[5,4,2,3,0,1],[6,5,4,2,3,0,1],[]] (fun w2 => Below w5.heap.size w5 w2) (fun w1 w2 => Below w1.heap.size w1 w2) (by kernel_rfl) (by kernel_rfl) (bdrew) ?_
                    refine Og.step_pure (fun _ => Below.refl _ _) ?_; apply Exists.intro; refine And.intro ?_ ?_; focus (intro vs w2 hC hk; have hm := HC w2 hC; revert hk; simp only [Og.KS, Og.K0, Og.Is, List.getD_cons_zero, List.getD_cons_succ, List.getD_nil, List.contains_cons, List.contains_nil, Nat.reduceAdd, Nat.reduceBEq, Bool.or_false, Bool.false_or, Bool.or_true, Bool.true_or, Bool.false_eq_true, false_implies, true_implies, true_and, and_true, forall_const]; intros; go_simp; exact rfl)
                    refine Og.step_pure (fun _ => Below.refl _ _) ?_; apply Exists.intro; refine And.intro ?_ ?_; focus (intro vs w2 hC hk; have hm := HC w2 hC; revert hk; simp only [Og.KS, Og.K0, Og.Is, List.getD_cons_zero, List.getD_cons_succ, List.getD_nil, List.contains_cons, List.contains_nil, Nat.reduceAdd, Nat.reduceBEq, Bool.or_false, Bool.false_or, Bool.or_true, Bool.true_or, Bool.false_eq_true, false_implies, true_implies, true_and, and_true, forall_const]; intros; go_simp; exact rfl)
                    refine Og.step_pure (fun _ => Below.refl _ _) ?_; apply Exists.intro; refine And.intro ?_ ?_; focus (intro vs w2 hC hk; have hm := HC w2 hC; revert hk; simp only [Og.KS, Og.K0, Og.Is, List.getD_cons_zero, List.getD_cons_succ, List.getD_nil, List.contains_cons, List.contains_nil, Nat.reduceAdd, Nat.reduceBEq, Bool.or_false, Bool.false_or, Bool.or_true, Bool.true_or, Bool.false_eq_true, false_implies, true_implies, true_and, and_true, forall_const]; intros; go_simp; exact rfl)
                    refine Og.step_pure (fun _ => Below.refl _ _) ?_; apply Exists.intro; refine And.intro ?_ ?_; focus (intro vs w2 hC hk; have hm := HC w2 hC; revert hk; simp only [Og.KS, Og.K0, Og.Is, List.getD_cons_zero, List.getD_cons_succ, List.getD_nil, List.contains_cons, List.contains_nil, Nat.reduceAdd, Nat.reduceBEq, Bool.or_false, Bool.false_or, Bool.or_true, Bool.true_or, Bool.false_eq_true, false_implies, true_implies, true_and, and_true, forall_const]; intros; go_simp; exact rfl)
                    refine Og.step_pure (fun _ => Below.refl _ _) ?_; apply Exists.intro; refine And.intro ?_ ?_; focus (intro vs w2 hC hk; have hm := HC w2 hC; revert hk; simp only [Og.KS, Og.K0, Og.Is, List.getD_cons_zero, List.getD_cons_succ, List.getD_nil, List.contains_cons, List.contains_nil, Nat.reduceAdd, Nat.reduceBEq, Bool.or_false, Bool.false_or, Bool.or_true, Bool.true_or, Bool.false_eq_true, false_implies, true_implies, true_and, and_true, forall_const]; intros; go_simp; exact rfl)
                    refine Og.step_pure (fun _ => Below.refl _ _) ?_; apply Exists.intro; refine And.intro ?_ ?_; focus (intro vs w2 hC hk; have hm := HC w2 hC; revert hk; simp only [Og.KS, Og.K0, Og.Is, List.getD_cons_zero, List.getD_cons_succ, List.getD_nil, List.contains_cons, List.contains_nil, Nat.reduceAdd, Nat.reduceBEq, Bool.or_false, Bool.false_or, Bool.or_true, Bool.true_or, Bool.false_eq_true, false_implies, true_implies, true_and, and_true, forall_const]; intros; go_simp; exact rfl)
                    refine Og.step_pure (fun _ => Below.refl _ _) ?_; apply Exists.intro; refine And.intro ?_ ?_; focus (intro vs w2 hC hk; have hm := HC w2 hC; revert hk; simp only [Og.KS, Og.K0, Og.Is, List.getD_cons_zero, List.getD_cons_succ, List.getD_nil, List.contains_cons, List.contains_nil, Nat.reduceAdd, Nat.reduceBEq, Bool.or_false, Bool.false_or, Bool.or_true, Bool.true_or, Bool.false_eq_true, false_implies, true_implies, true_and, and_true, forall_const]; intros; go_simp; exact rfl)
                    refine Og.step_pure (fun _ => Below.refl _ _) ?_; apply Exists.intro; refine And.intro ?_ ?_; focus (intro vs w2 hC hk; have hm := HC w2 hC; revert hk; simp only [Og.KS, Og.K0, Og.Is, List.getD_cons_zero, List.getD_cons_succ, List.getD_nil, List.contains_cons, List.contains_nil, Nat.reduceAdd, Nat.reduceBEq, Bool.or_false, Bool.false_or, Bool.or_true, Bool.true_or, Bool.false_eq_true, false_implies, true_implies, true_and, and_true, forall_const]; intros; go_simp; exact rfl)
                    refine Og.step_pure (fun _ => Below.refl _ _) ?_; apply Exists.intro; refine And.intro ?_ ?_; focus (intro vs w2 hC hk; have hm := HC w2 hC; revert hk; simp only [Og.KS, Og.K0, Og.Is, List.getD_cons_zero, List.getD_cons_succ, List.getD_nil, List.contains_cons, List.contains_nil, Nat.reduceAdd, Nat.reduceBEq, Bool.or_false, Bool.false_or, Bool.or_true, Bool.true_or, Bool.false_eq_true, false_implies, true_implies, true_and, and_true, forall_const]; intros; go_simp; exact rfl)
                    intro vS w6 hC hk
                    simp only [Og.KS, Og.K0, Og.Is, List.getD_cons_zero, List.getD_cons_succ, List.getD_nil, List.contains_cons, List.contains_nil, Nat.reduceAdd, Nat.reduceBEq, Bool.or_false, Bool.false_or, Bool.or_true, Bool.true_or, Bool.false_eq_true, false_implies, true_implies, true_and, and_true, forall_const] at hk
                    simp only [hk, Act.put, List.setIfInBounds_toArray, List.set_cons_zero, List.set_cons_succ]
                    have L0 : Hid (Wy b w6 v2 (xs.take ln) ∧ Fx F E w6 vs4 (keepP fr er l fl).1 (keepP fr er l fl).2.1 ∧ Vw V w6 vv (viewL ls) ∧ Below F w w6 ∧ (∀ x ∈ xs.take ln, LaS x) ∧ w6.heap[z8]? = some (.cells (cLa l).toArray 91 (0, 0)) ∧ v2.ownBlock ≠ some z8) := Lib.hid ⟨WY5.out.below hC, FX5.out.below hC, VW5.out.below hC, BL5.out.trans (hC.mono (by have := FX5.out.lt; have := FE.out; omega)), HXT.out, heap_keep hC Z5.out, Z8.out.2.2⟩
                    clear hk hC HC WY5 FX5 VW5 BL5 Z5
                    go_wp2_with fail
                    go_loopw [61] (fun i wr => ∃ (q : Nat) (zs : List La) (vz : Value), q ≤ nl ∧ i = .int .i64 q ∧ Hid (Wy b wr vz zs ∧ Fx F E wr vs4 (keepP fr er l fl).1 (keepP fr er l fl).2.1 ∧ Vw V wr vv (viewL ls) ∧ Below F w wr ∧ (∀ x ∈ zs, LaS x) ∧ wr.heap[z8]? = some (.cells (cLa l).toArray 91 (0, 0)) ∧ vz.ownBlock ≠ some z8) ∧ Hid (putAll zs l (ks.drop q) = some ys)) (fun i _ => nl - (intOf i).toNat)
                    case atStart => exact ⟨0, _, _, Nat.zero_le _, rfl, L0, HYS⟩
                    case round =>
                      obtain ⟨q, zs, vz, hq, rfl, hL, hP⟩ := hrel
                      by_cases hlt : q < nl
                      · have hwk1 : IntKind.i64.wrap ((q : Int) + 1) = (q : Int) + 1 := by have := nll.out; rw [IntKind.wrap_i64]; omega
                        have hq0 : (0 : Int) ≤ (q : Int) := by omega
                        have hqn : (q : Int) < (nl : Int) := by omega
                        obtain ⟨k, hk⟩ : ∃ k, ks[q]? = some k := ⟨_, List.getElem?_eq_getElem (by rw [← NL.out]; exact hlt)⟩
                        obtain ⟨hkl, hke⟩ := List.getElem?_eq_some_iff.1 hk
                        have hpa := hP.out
                        rw [List.drop_eq_getElem_cons hkl, hke] at hpa
                        obtain ⟨c0, d0, rb, ib, ko, zl, zs2, hput, hrest⟩ := putAll_some hpa
                        have hown := hL.out.2.2.1.own m _ ks HVO.out.1 KS0.out
                        rw [HVO.out.2] at hown
                        obtain ⟨A2, cc2, hA2, hrd, -⟩ := Sl_of_row cLk_len (by omega) hown rfl
                        have hAA : A = A2 := by rw [← NL.out] at hA2; injection hA2
                        subst hAA
                        obtain ⟨b0, o0, rfl, hat⟩ := hrd q k hk
                        have r1 := Lib.hid (run_loadL isAgg43 size43 (cLk_len k) hat)
                        have HREST := Lib.hid hrest
                        obtain ⟨kc, hkc⟩ : ∃ n : Nat, k.c = (n : Int) := ⟨k.c.toNat, by omega⟩
                        obtain ⟨kd, hkd⟩ : ∃ n : Nat, k.d = (n : Int) := ⟨k.d.toNat, by omega⟩
                        rw [hkc, Int.toNat_natCast] at rb
                        rw [hkd, Int.toNat_natCast] at ib
                        have elk : lkLa l k = ⟨l.r + kc, l.i + kd, k.t⟩ := by unfold lkLa; rw [hkc, hkd, Int.toNat_natCast, Int.toNat_natCast]
                        have lks : LaS (lkLa l k) := by rw [elk]; exact ⟨⟨rb, ib⟩, ko⟩
                        have hps := putP_LaS hL.out.2.2.2.2.1 lks hput
                        have PT := Lib.hid (fun w2 (H : Wy b w2 vz zs) => put_ok zs zs2 (lkLa l k) b vz w2 H (by omega) hL.out.2.2.2.2.1 lks hput)
                        have HPS := Lib.hid hps.1
                        have ec : (cLa (lkLa l k)).toArray = #[.complex .f64 (fb (l.r + kc)) (fb (l.i + kd)), .int .i64 k.t] := by rw [elk]; rfl
                        rw [ec] at PT
                        have SUM : Hid (∀ w, (binOp .add 39 (.complex .f64 (fb l.r) (fb l.i)) (.complex .f64 (floatOfInt .f64 (kc : Int)) (floatOfInt .f64 (kd : Int)))).run Try.prog w = .ok (.complex .f64 (fb (l.r + kc)) (fb (l.i + kd))) w) := Lib.hid (fun w => by rw [fb_int, fb_int]; exact run_complex_sum (P := Try.prog) (w := w) .add (.inl rfl) 39 .f64 (fb l.r) (fb l.i) (fb kc) (fb kd) _ _ (pair_add rb ib))
                        have CV1 : Hid (∀ w, (convert 3 92 (.int .i64 (kc : Int))).run Try.prog w = .ok (.float .f64 (fb kc)) w) := Lib.hid (fun w => by have := run_convert_int_float (P := Try.prog) w 3 92 .i64 .f64 (kc : Int) (by rw [Try.underlying3]; rfl) Try.underlying92; rwa [fb_int] at this)
                        have CV2 : Hid (∀ w, (convert 3 92 (.int .i64 (kd : Int))).run Try.prog w = .ok (.float .f64 (fb kd)) w) := Lib.hid (fun w => by have := run_convert_int_float (P := Try.prog) w 3 92 .i64 .f64 (kd : Int) (by rw [Try.underlying3]; rfl) Try.underlying92; rwa [fb_int] at this)
                        have KC := Lib.hid (And.intro hkc hkd)
                        have qp : wr.cell? ⟨z8, 0, none⟩ = some (.complex .f64 (fb l.r) (fb l.i)) := by rw [cell_of_row wr _ 0 _ _ _ hL.out.2.2.2.2.2.1]; rfl
                        clear hk hkl hke hpa hput hrest hown hA2 hrd hat c0 d0 rb ib ko zl elk lks hps ec hkc hkd hP
                        go_wp2_with (first | (refine wpList_loadL rfl 43 (.tmp 63) rfl b0 (o0 + q * 4) (.agg (cLk k).toArray) rfl r1.out ?_) | (refine wpList_storeN rfl 43 (.tmp 13) (.tmp 64) rfl rfl wr.heap.size (cLk k).toArray rfl rfl 43 _ (heap_at rfl) info43s rfl (by simp [Value.oneCell', cLk]) ?_; intro w7 hz hbb hn hs7; have b7 := below_storeA hbb; have L7 : Hid (Wy b w7 vz zs ∧ Fx F E w7 vs4 (keepP fr er l fl).1 (keepP fr er l fl).2.1 ∧ Vw V w7 vv (viewL ls) ∧ Below F w w7 ∧ w7.heap[z8]? = some (.cells (cLa l).toArray 91 (0, 0)) ∧ vz.ownBlock ≠ some z8) := Lib.hid ⟨hL.out.1.below b7, hL.out.2.1.below b7, hL.out.2.2.1.below b7, hL.out.2.2.2.1.trans (b7.mono (by have := hL.out.2.1.lt; have := FE.out; omega)), heap_keep b7 hL.out.2.2.2.2.2.1, hL.out.2.2.2.2.2.2⟩; have c1 : w7.cell? ⟨wr.heap.size, 1, none⟩ = some (.int .i64 k.t) := (by rw [cell_of_row w7 _ 1 _ _ _ hz]; rfl); have c2 : w7.cell? ⟨wr.heap.size, 2, none⟩ = some (.int .i64 (kc : Int)) := (by rw [cell_of_row w7 _ 2 _ _ _ hz, ← KC.out.1]; rfl); have c3 : w7.cell? ⟨wr.heap.size, 3, none⟩ = some (.int .i64 (kd : Int)) := (by rw [cell_of_row w7 _ 3 _ _ _ hz, ← KC.out.2]; rfl); have qp7 := bcell b7 qp; clear b7 hz hbb hn hs7) | (simp only [CV1.out]) | (simp only [CV2.out]) | (simp only [SUM.out]))
                        with_reducible refine (PT.out w7 L7.out.1).mono ?_
                        rintro e w8 ⟨rfl, f8, v8, W8, ov8⟩
                        have L8 : Hid (Wy b w8 v8 zs2 ∧ Fx F E w8 vs4 (keepP fr er l fl).1 (keepP fr er l fl).2.1 ∧ Vw V w8 vv (viewL ls) ∧ Below F w w8 ∧ (∀ x ∈ zs2, LaS x) ∧ w8.heap[z8]? = some (.cells (cLa l).toArray 91 (0, 0)) ∧ v8.ownBlock ≠ some z8) := Lib.hid (by
                          have z7 := (Array.getElem?_eq_some_iff.1 L7.out.2.2.2.2.1).1
                          refine ⟨W8, L7.out.2.1.sm (L7.out.1.leave f8 (by decide) (by decide)), L7.out.2.2.1.sm (L7.out.1.leave f8 (by decide) (by decide)), L7.out.2.2.2.1.trans (f8.bel.mono (by have := BLT.out; have := FE.out; omega)), HPS.out, f8.keep L7.out.2.2.2.2.1 (by have := Z8.out; omega) L7.out.2.2.2.2.2, ?_⟩
                          rcases ov8 with e | ⟨gq, e, hgq⟩
                          · rw [e]; exact L7.out.2.2.2.2.2
                          · rw [e]; intro e2; cases e2; omega)
                        clear W8 f8 ov8 c1 c2 c3 qp qp7 PT SUM CV1 CV2
                        go_wp2_with fail
                        go_roundw
                        case rel => exact ⟨q + 1, _, _, by omega, by go_num, L8, HREST⟩
                        case measure => simp [intOf]; omega
                      · have hqn : q = nl := by omega
                        have hzs : zs = ys := by
                          have := hP.out
                          rw [List.drop_of_length_le (by have := NL.out; omega)] at this
                          simpa [putAll] using this
                        subst hzs
                        have WN : Hid (WInv w F E b V vv (viewL ls) (res, er1) f wr) := Lib.hid ⟨_, _, _, _, _, hL.out.1, hL.out.2.1, hL.out.2.2.1, hL.out.2.2.2.1, hL.out.2.2.2.2.1, HFS2.out, HW2.out⟩
                        have hge : ¬ (q : Int) < (nl : Int) := by omega
                        clear hqn hL hP
                        go_wp2_with fail
                        exact ⟨⟨f, WN.out⟩, Nat.lt_of_le_of_lt (fuelOf_le WN.out) (by have := HFE.out; omega)⟩
                  · have hmb : ((m : Int) == a) = false := by simp [hma]
                    go_wp2_with fail
                    refine Og.walk_lit [[],[0],[1,0],[2,1,0],[3,2,1,0],[2,1,0],[4,5,2,3,1,0],[6,2,4,5,3,1,0],[7,6,2,4,5,3,1,0],[7,6,2,4,5,3,1,0],[9,7,6,2,4,5,3,1,0],[8,7,6,2,4,5,3,1,0],[11,7,8,6,2,4,5,3,1,0],[12,10,7,11,8,6,2,4,5,3,1,0,9],[13,7,12,10,11,8,6,2,4,5,3,1,0,9],[7,14,2,6,4,5,3,1,0,13,12,10,11,8,9],[2,15,1,0,7,14,6,4,5,3,13,12,10,11,8,9]] (fun w2 => Below w4.heap.size w4 w2) (fun w1 w2 => Below w1.heap.size w1 w2) (by kernel_rfl) (by kernel_rfl) (bdrew) ?_
                    refine Og.step_pure (fun _ => Below.refl _ _) ?_; apply Exists.intro; refine And.intro ?_ ?_; focus (intro vs w2 hC hk; have hm := HC w2 hC; revert hk; simp only [Og.KS, Og.K0, Og.Is, List.getD_cons_zero, List.getD_cons_succ, List.getD_nil, List.contains_cons, List.contains_nil, Nat.reduceAdd, Nat.reduceBEq, Bool.or_false, Bool.false_or, Bool.or_true, Bool.true_or, Bool.false_eq_true, false_implies, true_implies, true_and, and_true, forall_const]; intros; go_simp; exact rfl)
                    refine Og.step_pure (fun _ => Below.refl _ _) ?_; apply Exists.intro; refine And.intro ?_ ?_; focus (intro vs w2 hC hk; have hm := HC w2 hC; revert hk; simp only [Og.KS, Og.K0, Og.Is, List.getD_cons_zero, List.getD_cons_succ, List.getD_nil, List.contains_cons, List.contains_nil, Nat.reduceAdd, Nat.reduceBEq, Bool.or_false, Bool.false_or, Bool.or_true, Bool.true_or, Bool.false_eq_true, false_implies, true_implies, true_and, and_true, forall_const]; intros; go_simp; exact rfl)
                    refine Og.step_pure (fun _ => Below.refl _ _) ?_; apply Exists.intro; refine And.intro ?_ ?_; focus (intro vs w2 hC hk; have hm := HC w2 hC; revert hk; simp only [Og.KS, Og.K0, Og.Is, List.getD_cons_zero, List.getD_cons_succ, List.getD_nil, List.contains_cons, List.contains_nil, Nat.reduceAdd, Nat.reduceBEq, Bool.or_false, Bool.false_or, Bool.or_true, Bool.true_or, Bool.false_eq_true, false_implies, true_implies, true_and, and_true, forall_const]; intros; go_simp; exact rfl)
                    refine Og.step_pure (fun _ => Below.refl _ _) ?_; apply Exists.intro; refine And.intro ?_ ?_; focus (intro vs w2 hC hk; have hm := HC w2 hC; revert hk; simp only [Og.KS, Og.K0, Og.Is, List.getD_cons_zero, List.getD_cons_succ, List.getD_nil, List.contains_cons, List.contains_nil, Nat.reduceAdd, Nat.reduceBEq, Bool.or_false, Bool.false_or, Bool.or_true, Bool.true_or, Bool.false_eq_true, false_implies, true_implies, true_and, and_true, forall_const]; intros; go_simp; exact rfl)
                    refine Og.step_pure (fun _ => Below.refl _ _) ?_; apply Exists.intro; refine And.intro ?_ ?_; focus (intro vs w2 hC hk; have hm := HC w2 hC; revert hk; simp only [Og.KS, Og.K0, Og.Is, List.getD_cons_zero, List.getD_cons_succ, List.getD_nil, List.contains_cons, List.contains_nil, Nat.reduceAdd, Nat.reduceBEq, Bool.or_false, Bool.false_or, Bool.or_true, Bool.true_or, Bool.false_eq_true, false_implies, true_implies, true_and, and_true, forall_const]; intros; go_simp; exact rfl)
                    refine Og.step_pure (fun _ => Below.refl _ _) ?_; apply Exists.intro; refine And.intro ?_ ?_; focus (intro vs w2 hC hk; have hm := HC w2 hC; revert hk; simp only [Og.KS, Og.K0, Og.Is, List.getD_cons_zero, List.getD_cons_succ, List.getD_nil, List.contains_cons, List.contains_nil, Nat.reduceAdd, Nat.reduceBEq, Bool.or_false, Bool.false_or, Bool.or_true, Bool.true_or, Bool.false_eq_true, false_implies, true_implies, true_and, and_true, forall_const]; intros; go_simp; exact rfl)
                    refine Og.step_pure (fun _ => Below.refl _ _) ?_; apply Exists.intro; refine And.intro ?_ ?_; focus (intro vs w2 hC hk; have hm := HC w2 hC; revert hk; simp only [Og.KS, Og.K0, Og.Is, List.getD_cons_zero, List.getD_cons_succ, List.getD_nil, List.contains_cons, List.contains_nil, Nat.reduceAdd, Nat.reduceBEq, Bool.or_false, Bool.false_or, Bool.or_true, Bool.true_or, Bool.false_eq_true, false_implies, true_implies, true_and, and_true, forall_const]; intros; go_simp; exact rfl)
                    refine Og.step_pure (fun _ => Below.refl _ _) ?_; apply Exists.intro; refine And.intro ?_ ?_; focus (intro vs w2 hC hk; have hm := HC w2 hC; revert hk; simp only [Og.KS, Og.K0, Og.Is, List.getD_cons_zero, List.getD_cons_succ, List.getD_nil, List.contains_cons, List.contains_nil, Nat.reduceAdd, Nat.reduceBEq, Bool.or_false, Bool.false_or, Bool.or_true, Bool.true_or, Bool.false_eq_true, false_implies, true_implies, true_and, and_true, forall_const]; intros; go_simp; exact rfl)
                    refine Og.step_pure (fun _ => Below.refl _ _) ?_; apply Exists.intro; refine And.intro ?_ ?_; focus (intro vs w2 hC hk; have hm := HC w2 hC; revert hk; simp only [Og.KS, Og.K0, Og.Is, List.getD_cons_zero, List.getD_cons_succ, List.getD_nil, List.contains_cons, List.contains_nil, Nat.reduceAdd, Nat.reduceBEq, Bool.or_false, Bool.false_or, Bool.or_true, Bool.true_or, Bool.false_eq_true, false_implies, true_implies, true_and, and_true, forall_const]; intros; go_simp; exact rfl)
                    refine Og.step_pure (fun _ => Below.refl _ _) ?_; apply Exists.intro; refine And.intro ?_ ?_; focus (intro vs w2 hC hk; have hm := HC w2 hC; revert hk; simp only [Og.KS, Og.K0, Og.Is, List.getD_cons_zero, List.getD_cons_succ, List.getD_nil, List.contains_cons, List.contains_nil, Nat.reduceAdd, Nat.reduceBEq, Bool.or_false, Bool.false_or, Bool.or_true, Bool.true_or, Bool.false_eq_true, false_implies, true_implies, true_and, and_true, forall_const]; intros; go_simp; exact rfl)
                    refine Og.step_pure (fun _ => Below.refl _ _) ?_; apply Exists.intro; refine And.intro ?_ ?_; focus (intro vs w2 hC hk; have hm := HC w2 hC; revert hk; simp only [Og.KS, Og.K0, Og.Is, List.getD_cons_zero, List.getD_cons_succ, List.getD_nil, List.contains_cons, List.contains_nil, Nat.reduceAdd, Nat.reduceBEq, Bool.or_false, Bool.false_or, Bool.or_true, Bool.true_or, Bool.false_eq_true, false_implies, true_implies, true_and, and_true, forall_const]; intros; go_simp; exact rfl)
                    refine Og.step_pure (fun _ => Below.refl _ _) ?_; apply Exists.intro; refine And.intro ?_ ?_; focus (intro vs w2 hC hk; have hm := HC w2 hC; revert hk; simp only [Og.KS, Og.K0, Og.Is, List.getD_cons_zero, List.getD_cons_succ, List.getD_nil, List.contains_cons, List.contains_nil, Nat.reduceAdd, Nat.reduceBEq, Bool.or_false, Bool.false_or, Bool.or_true, Bool.true_or, Bool.false_eq_true, false_implies, true_implies, true_and, and_true, forall_const]; intros; go_simp; exact rfl)
                    refine Og.step_pure (fun _ => Below.refl _ _) ?_; apply Exists.intro; refine And.intro ?_ ?_; focus (intro vs w2 hC hk; have hm := HC w2 hC; revert hk; simp only [Og.KS, Og.K0, Og.Is, List.getD_cons_zero, List.getD_cons_succ, List.getD_nil, List.contains_cons, List.contains_nil, Nat.reduceAdd, Nat.reduceBEq, Bool.or_false, Bool.false_or, Bool.or_true, Bool.true_or, Bool.false_eq_true, false_implies, true_implies, true_and, and_true, forall_const]; intros; go_simp; exact rfl)
                    refine Og.step_pure (fun _ => Below.refl _ _) ?_; apply Exists.intro; refine And.intro ?_ ?_; focus (intro vs w2 hC hk; have hm := HC w2 hC; revert hk; simp only [Og.KS, Og.K0, Og.Is, List.getD_cons_zero, List.getD_cons_succ, List.getD_nil, List.contains_cons, List.contains_nil, Nat.reduceAdd, Nat.reduceBEq, Bool.or_false, Bool.false_or, Bool.or_true, Bool.true_or, Bool.false_eq_true, false_implies, true_implies, true_and, and_true, forall_const]; intros; go_simp; exact rfl)
                    refine Og.step_pure (fun _ => Below.refl _ _) ?_; apply Exists.intro; refine And.intro ?_ ?_; focus (intro vs w2 hC hk; have hm := HC w2 hC; revert hk; simp only [Og.KS, Og.K0, Og.Is, List.getD_cons_zero, List.getD_cons_succ, List.getD_nil, List.contains_cons, List.contains_nil, Nat.reduceAdd, Nat.reduceBEq, Bool.or_false, Bool.false_or, Bool.or_true, Bool.true_or, Bool.false_eq_true, false_implies, true_implies, true_and, and_true, forall_const]; intros; go_simp; exact rfl)
                    refine Og.step_pure (fun _ => Below.refl _ _) ?_; apply Exists.intro; refine And.intro ?_ ?_; focus (intro vs w2 hC hk; have hm := HC w2 hC; revert hk; simp only [Og.KS, Og.K0, Og.Is, List.getD_cons_zero, List.getD_cons_succ, List.getD_nil, List.contains_cons, List.contains_nil, Nat.reduceAdd, Nat.reduceBEq, Bool.or_false, Bool.false_or, Bool.or_true, Bool.true_or, Bool.false_eq_true, false_implies, true_implies, true_and, and_true, forall_const]; intros; go_simp; exact rfl)
                    refine Og.step_pure (fun _ => Below.refl _ _) ?_; apply Exists.intro; refine And.intro ?_ ?_; focus (intro vs w2 hC hk; have hm := HC w2 hC; revert hk; simp only [Og.KS, Og.K0, Og.Is, List.getD_cons_zero, List.getD_cons_succ, List.getD_nil, List.contains_cons, List.contains_nil, Nat.reduceAdd, Nat.reduceBEq, Bool.or_false, Bool.false_or, Bool.or_true, Bool.true_or, Bool.false_eq_true, false_implies, true_implies, true_and, and_true, forall_const]; intros; go_simp; exact rfl)
                    intro vS w5 hC hk
                    simp only [Og.KS, Og.K0, Og.Is, List.getD_cons_zero, List.getD_cons_succ, List.getD_nil, List.contains_cons, List.contains_nil, Nat.reduceAdd, Nat.reduceBEq, Bool.or_false, Bool.false_or, Bool.or_true, Bool.true_or, Bool.false_eq_true, false_implies, true_implies, true_and, and_true, forall_const] at hk
                    simp only [hk, Act.put, List.setIfInBounds_toArray, List.set_cons_zero, List.set_cons_succ]
                    have WY5 := Lib.hid (WY4.out.below hC)
                    have FX5 := Lib.hid (FX4'.out.below hC)
                    have VW5 := Lib.hid (VW4.out.below hC)
                    have BL5 := Lib.hid (BL4.out.trans (hC.mono (by have := FX4'.out.lt; have := FE.out; omega)))
                    have Z5 := Lib.hid (heap_keep hC Z4.out)
                    obtain ⟨qn, -, sl⟩ := HC w5 hC
                    clear hk hC HC WY4 FX4' VW4 BL4 Z4
                    have HC : ∀ w6, Below w5.heap.size w5 w6 → w6.cell? ⟨z8, 1, none⟩ = some (.int .i64 (m : Int)) ∧ w6.cell? ⟨V, 128 + m, none⟩ = some (.slice A nl cc) := fun w6 h6 => ⟨bcell h6 qn, bcell h6 sl⟩
                    clear qn sl
                    go_wp2_with fail
                    refine Og.walk_lit [[],[],[1],[0],[3,0],[4,2,3,0,1],[5,4,2,3,0,1],[6,5,4,2,3,0,1],[]] (fun w2 => Below w5.heap.size w5 w2) (fun w1 w2 => Below w1.heap.size w1 w2) (by kernel_rfl) (by kernel_rfl) (bdrew) ?_
                    refine Og.step_pure (fun _ => Below.refl _ _) ?_; apply Exists.intro; refine And.intro ?_ ?_; focus (intro vs w2 hC hk; have hm := HC w2 hC; revert hk; simp only [Og.KS, Og.K0, Og.Is, List.getD_cons_zero, List.getD_cons_succ, List.getD_nil, List.contains_cons, List.contains_nil, Nat.reduceAdd, Nat.reduceBEq, Bool.or_false, Bool.false_or, Bool.or_true, Bool.true_or, Bool.false_eq_true, false_implies, true_implies, true_and, and_true, forall_const]; intros; go_simp; exact rfl)
                    refine Og.step_pure (fun _ => Below.refl _ _) ?_; apply Exists.intro; refine And.intro ?_ ?_; focus (intro vs w2 hC hk; have hm := HC w2 hC; revert hk; simp only [Og.KS, Og.K0, Og.Is, List.getD_cons_zero, List.getD_cons_succ, List.getD_nil, List.contains_cons, List.contains_nil, Nat.reduceAdd, Nat.reduceBEq, Bool.or_false, Bool.false_or, Bool.or_true, Bool.true_or, Bool.false_eq_true, false_implies, true_implies, true_and, and_true, forall_const]; intros; go_simp; exact rfl)
                    refine Og.step_pure (fun _ => Below.refl _ _) ?_; apply Exists.intro; refine And.intro ?_ ?_; focus (intro vs w2 hC hk; have hm := HC w2 hC; revert hk; simp only [Og.KS, Og.K0, Og.Is, List.getD_cons_zero, List.getD_cons_succ, List.getD_nil, List.contains_cons, List.contains_nil, Nat.reduceAdd, Nat.reduceBEq, Bool.or_false, Bool.false_or, Bool.or_true, Bool.true_or, Bool.false_eq_true, false_implies, true_implies, true_and, and_true, forall_const]; intros; go_simp; exact rfl)
                    refine Og.step_pure (fun _ => Below.refl _ _) ?_; apply Exists.intro; refine And.intro ?_ ?_; focus (intro vs w2 hC hk; have hm := HC w2 hC; revert hk; simp only [Og.KS, Og.K0, Og.Is, List.getD_cons_zero, List.getD_cons_succ, List.getD_nil, List.contains_cons, List.contains_nil, Nat.reduceAdd, Nat.reduceBEq, Bool.or_false, Bool.false_or, Bool.or_true, Bool.true_or, Bool.false_eq_true, false_implies, true_implies, true_and, and_true, forall_const]; intros; go_simp; exact rfl)
                    refine Og.step_pure (fun _ => Below.refl _ _) ?_; apply Exists.intro; refine And.intro ?_ ?_; focus (intro vs w2 hC hk; have hm := HC w2 hC; revert hk; simp only [Og.KS, Og.K0, Og.Is, List.getD_cons_zero, List.getD_cons_succ, List.getD_nil, List.contains_cons, List.contains_nil, Nat.reduceAdd, Nat.reduceBEq, Bool.or_false, Bool.false_or, Bool.or_true, Bool.true_or, Bool.false_eq_true, false_implies, true_implies, true_and, and_true, forall_const]; intros; go_simp; exact rfl)
                    refine Og.step_pure (fun _ => Below.refl _ _) ?_; apply Exists.intro; refine And.intro ?_ ?_; focus (intro vs w2 hC hk; have hm := HC w2 hC; revert hk; simp only [Og.KS, Og.K0, Og.Is, List.getD_cons_zero, List.getD_cons_succ, List.getD_nil, List.contains_cons, List.contains_nil, Nat.reduceAdd, Nat.reduceBEq, Bool.or_false, Bool.false_or, Bool.or_true, Bool.true_or, Bool.false_eq_true, false_implies, true_implies, true_and, and_true, forall_const]; intros; go_simp; exact rfl)
                    refine Og.step_pure (fun _ => Below.refl _ _) ?_; apply Exists.intro; refine And.intro ?_ ?_; focus (intro vs w2 hC hk; have hm := HC w2 hC; revert hk; simp only [Og.KS, Og.K0, Og.Is, List.getD_cons_zero, List.getD_cons_succ, List.getD_nil, List.contains_cons, List.contains_nil, Nat.reduceAdd, Nat.reduceBEq, Bool.or_false, Bool.false_or, Bool.or_true, Bool.true_or, Bool.false_eq_true, false_implies, true_implies, true_and, and_true, forall_const]; intros; go_simp; exact rfl)
                    refine Og.step_pure (fun _ => Below.refl _ _) ?_; apply Exists.intro; refine And.intro ?_ ?_; focus (intro vs w2 hC hk; have hm := HC w2 hC; revert hk; simp only [Og.KS, Og.K0, Og.Is, List.getD_cons_zero, List.getD_cons_succ, List.getD_nil, List.contains_cons, List.contains_nil, Nat.reduceAdd, Nat.reduceBEq, Bool.or_false, Bool.false_or, Bool.or_true, Bool.true_or, Bool.false_eq_true, false_implies, true_implies, true_and, and_true, forall_const]; intros; go_simp; exact rfl)
                    refine Og.step_pure (fun _ => Below.refl _ _) ?_; apply Exists.intro; refine And.intro ?_ ?_; focus (intro vs w2 hC hk; have hm := HC w2 hC; revert hk; simp only [Og.KS, Og.K0, Og.Is, List.getD_cons_zero, List.getD_cons_succ, List.getD_nil, List.contains_cons, List.contains_nil, Nat.reduceAdd, Nat.reduceBEq, Bool.or_false, Bool.false_or, Bool.or_true, Bool.true_or, Bool.false_eq_true, false_implies, true_implies, true_and, and_true, forall_const]; intros; go_simp; exact rfl)
                    intro vS w6 hC hk
                    simp only [Og.KS, Og.K0, Og.Is, List.getD_cons_zero, List.getD_cons_succ, List.getD_nil, List.contains_cons, List.contains_nil, Nat.reduceAdd, Nat.reduceBEq, Bool.or_false, Bool.false_or, Bool.or_true, Bool.true_or, Bool.false_eq_true, false_implies, true_implies, true_and, and_true, forall_const] at hk
                    simp only [hk, Act.put, List.setIfInBounds_toArray, List.set_cons_zero, List.set_cons_succ]
                    have L0 : Hid (Wy b w6 v2 (xs.take ln) ∧ Fx F E w6 vs4 (keepP fr er l fl).1 (keepP fr er l fl).2.1 ∧ Vw V w6 vv (viewL ls) ∧ Below F w w6 ∧ (∀ x ∈ xs.take ln, LaS x) ∧ w6.heap[z8]? = some (.cells (cLa l).toArray 91 (0, 0)) ∧ v2.ownBlock ≠ some z8) := Lib.hid ⟨WY5.out.below hC, FX5.out.below hC, VW5.out.below hC, BL5.out.trans (hC.mono (by have := FX5.out.lt; have := FE.out; omega)), HXT.out, heap_keep hC Z5.out, Z8.out.2.2⟩
                    clear hk hC HC WY5 FX5 VW5 BL5 Z5
                    go_wp2_with fail
                    go_loopw [61] (fun i wr => ∃ (q : Nat) (zs : List La) (vz : Value), q ≤ nl ∧ i = .int .i64 q ∧ Hid (Wy b wr vz zs ∧ Fx F E wr vs4 (keepP fr er l fl).1 (keepP fr er l fl).2.1 ∧ Vw V wr vv (viewL ls) ∧ Below F w wr ∧ (∀ x ∈ zs, LaS x) ∧ wr.heap[z8]? = some (.cells (cLa l).toArray 91 (0, 0)) ∧ vz.ownBlock ≠ some z8) ∧ Hid (putAll zs l (ks.drop q) = some ys)) (fun i _ => nl - (intOf i).toNat)
                    case atStart => exact ⟨0, _, _, Nat.zero_le _, rfl, L0, HYS⟩
                    case round =>
                      obtain ⟨q, zs, vz, hq, rfl, hL, hP⟩ := hrel
                      by_cases hlt : q < nl
                      · have hwk1 : IntKind.i64.wrap ((q : Int) + 1) = (q : Int) + 1 := by have := nll.out; rw [IntKind.wrap_i64]; omega
                        have hq0 : (0 : Int) ≤ (q : Int) := by omega
                        have hqn : (q : Int) < (nl : Int) := by omega
                        obtain ⟨k, hk⟩ : ∃ k, ks[q]? = some k := ⟨_, List.getElem?_eq_getElem (by rw [← NL.out]; exact hlt)⟩
                        obtain ⟨hkl, hke⟩ := List.getElem?_eq_some_iff.1 hk
                        have hpa := hP.out
                        rw [List.drop_eq_getElem_cons hkl, hke] at hpa
                        obtain ⟨c0, d0, rb, ib, ko, zl, zs2, hput, hrest⟩ := putAll_some hpa
                        have hown := hL.out.2.2.1.own m _ ks HVO.out.1 KS0.out
                        rw [HVO.out.2] at hown
                        obtain ⟨A2, cc2, hA2, hrd, -⟩ := Sl_of_row cLk_len (by omega) hown rfl
                        have hAA : A = A2 := by rw [← NL.out] at hA2; injection hA2
                        subst hAA
                        obtain ⟨b0, o0, rfl, hat⟩ := hrd q k hk
                        have r1 := Lib.hid (run_loadL isAgg43 size43 (cLk_len k) hat)
                        have HREST := Lib.hid hrest
                        obtain ⟨kc, hkc⟩ : ∃ n : Nat, k.c = (n : Int) := ⟨k.c.toNat, by omega⟩
                        obtain ⟨kd, hkd⟩ : ∃ n : Nat, k.d = (n : Int) := ⟨k.d.toNat, by omega⟩
                        rw [hkc, Int.toNat_natCast] at rb
                        rw [hkd, Int.toNat_natCast] at ib
                        have elk : lkLa l k = ⟨l.r + kc, l.i + kd, k.t⟩ := by unfold lkLa; rw [hkc, hkd, Int.toNat_natCast, Int.toNat_natCast]
                        have lks : LaS (lkLa l k) := by rw [elk]; exact ⟨⟨rb, ib⟩, ko⟩
                        have hps := putP_LaS hL.out.2.2.2.2.1 lks hput
                        have PT := Lib.hid (fun w2 (H : Wy b w2 vz zs) => put_ok zs zs2 (lkLa l k) b vz w2 H (by omega) hL.out.2.2.2.2.1 lks hput)
                        have HPS := Lib.hid hps.1
                        have ec : (cLa (lkLa l k)).toArray = #[.complex .f64 (fb (l.r + kc)) (fb (l.i + kd)), .int .i64 k.t] := by rw [elk]; rfl
                        rw [ec] at PT
                        have SUM : Hid (∀ w, (binOp .add 39 (.complex .f64 (fb l.r) (fb l.i)) (.complex .f64 (floatOfInt .f64 (kc : Int)) (floatOfInt .f64 (kd : Int)))).run Try.prog w = .ok (.complex .f64 (fb (l.r + kc)) (fb (l.i + kd))) w) := Lib.hid (fun w => by rw [fb_int, fb_int]; exact run_complex_sum (P := Try.prog) (w := w) .add (.inl rfl) 39 .f64 (fb l.r) (fb l.i) (fb kc) (fb kd) _ _ (pair_add rb ib))
                        have CV1 : Hid (∀ w, (convert 3 92 (.int .i64 (kc : Int))).run Try.prog w = .ok (.float .f64 (fb kc)) w) := Lib.hid (fun w => by have := run_convert_int_float (P := Try.prog) w 3 92 .i64 .f64 (kc : Int) (by rw [Try.underlying3]; rfl) Try.underlying92; rwa [fb_int] at this)
                        have CV2 : Hid (∀ w, (convert 3 92 (.int .i64 (kd : Int))).run Try.prog w = .ok (.float .f64 (fb kd)) w) := Lib.hid (fun w => by have := run_convert_int_float (P := Try.prog) w 3 92 .i64 .f64 (kd : Int) (by rw [Try.underlying3]; rfl) Try.underlying92; rwa [fb_int] at this)
                        have KC := Lib.hid (And.intro hkc hkd)
                        have qp : wr.cell? ⟨z8, 0, none⟩ = some (.complex .f64 (fb l.r) (fb l.i)) := by rw [cell_of_row wr _ 0 _ _ _ hL.out.2.2.2.2.2.1]; rfl
                        clear hk hkl hke hpa hput hrest hown hA2 hrd hat c0 d0 rb ib ko zl elk lks hps ec hkc hkd hP
                        go_wp2_with (first | (refine wpList_loadL rfl 43 (.tmp 63) rfl b0 (o0 + q * 4) (.agg (cLk k).toArray) rfl r1.out ?_) | (refine wpList_storeN rfl 43 (.tmp 13) (.tmp 64) rfl rfl wr.heap.size (cLk k).toArray rfl rfl 43 _ (heap_at rfl) info43s rfl (by simp [Value.oneCell', cLk]) ?_; intro w7 hz hbb hn hs7; have b7 := below_storeA hbb; have L7 : Hid (Wy b w7 vz zs ∧ Fx F E w7 vs4 (keepP fr er l fl).1 (keepP fr er l fl).2.1 ∧ Vw V w7 vv (viewL ls) ∧ Below F w w7 ∧ w7.heap[z8]? = some (.cells (cLa l).toArray 91 (0, 0)) ∧ vz.ownBlock ≠ some z8) := Lib.hid ⟨hL.out.1.below b7, hL.out.2.1.below b7, hL.out.2.2.1.below b7, hL.out.2.2.2.1.trans (b7.mono (by have := hL.out.2.1.lt; have := FE.out; omega)), heap_keep b7 hL.out.2.2.2.2.2.1, hL.out.2.2.2.2.2.2⟩; have c1 : w7.cell? ⟨wr.heap.size, 1, none⟩ = some (.int .i64 k.t) := (by rw [cell_of_row w7 _ 1 _ _ _ hz]; rfl); have c2 : w7.cell? ⟨wr.heap.size, 2, none⟩ = some (.int .i64 (kc : Int)) := (by rw [cell_of_row w7 _ 2 _ _ _ hz, ← KC.out.1]; rfl); have c3 : w7.cell? ⟨wr.heap.size, 3, none⟩ = some (.int .i64 (kd : Int)) := (by rw [cell_of_row w7 _ 3 _ _ _ hz, ← KC.out.2]; rfl); have qp7 := bcell b7 qp; clear b7 hz hbb hn hs7) | (simp only [CV1.out]) | (simp only [CV2.out]) | (simp only [SUM.out]))
                        with_reducible refine (PT.out w7 L7.out.1).mono ?_
                        rintro e w8 ⟨rfl, f8, v8, W8, ov8⟩
                        have L8 : Hid (Wy b w8 v8 zs2 ∧ Fx F E w8 vs4 (keepP fr er l fl).1 (keepP fr er l fl).2.1 ∧ Vw V w8 vv (viewL ls) ∧ Below F w w8 ∧ (∀ x ∈ zs2, LaS x) ∧ w8.heap[z8]? = some (.cells (cLa l).toArray 91 (0, 0)) ∧ v8.ownBlock ≠ some z8) := Lib.hid (by
                          have z7 := (Array.getElem?_eq_some_iff.1 L7.out.2.2.2.2.1).1
                          refine ⟨W8, L7.out.2.1.sm (L7.out.1.leave f8 (by decide) (by decide)), L7.out.2.2.1.sm (L7.out.1.leave f8 (by decide) (by decide)), L7.out.2.2.2.1.trans (f8.bel.mono (by have := BLT.out; have := FE.out; omega)), HPS.out, f8.keep L7.out.2.2.2.2.1 (by have := Z8.out; omega) L7.out.2.2.2.2.2, ?_⟩
                          rcases ov8 with e | ⟨gq, e, hgq⟩
                          · rw [e]; exact L7.out.2.2.2.2.2
                          · rw [e]; intro e2; cases e2; omega)
                        clear W8 f8 ov8 c1 c2 c3 qp qp7 PT SUM CV1 CV2
                        go_wp2_with fail
                        go_roundw
                        case rel => exact ⟨q + 1, _, _, by omega, by go_num, L8, HREST⟩
                        case measure => simp [intOf]; omega
                      · have hqn : q = nl := by omega
                        have hzs : zs = ys := by
                          have := hP.out
                          rw [List.drop_of_length_le (by have := NL.out; omega)] at this
                          simpa [putAll] using this
                        subst hzs
                        have WN : Hid (WInv w F E b V vv (viewL ls) (res, er1) f wr) := Lib.hid ⟨_, _, _, _, _, hL.out.1, hL.out.2.1, hL.out.2.2.1, hL.out.2.2.2.1, hL.out.2.2.2.2.1, HFS2.out, HW2.out⟩
                        have hge : ¬ (q : Int) < (nl : Int) := by omega
                        clear hqn hL hP
                        go_wp2_with fail
                        exact ⟨⟨f, WN.out⟩, Nat.lt_of_le_of_lt (fuelOf_le WN.out) (by have := HFE.out; omega)⟩
                · cases hw
          · cases hwk
        · cases hwk

end Go.Proofs.Ytpklcefiabjplaa
