/- The reference: takes; conditions as stated. -/
import Derived.Test.YtpklcefiabjplaaT8
namespace Go.Proofs.Ytpklcefiabjplaa
open Go.ChangeShapes Go.WideShapes Go.ChangeAt Go.RowKit
set_option linter.unusedVariables false
set_option linter.unusedSimpArgs false
attribute [local go_sem] Og.Opt Og.OpY

attribute [local go_sem] Og.Opt Og.OpY
theorem eqU23 (d : Nat) (x y : Int) (w : World) : (Op.equalIn (d + 1) 23 (.int .u64 x) (.int .u64 y)).run Try.prog w = .ok (x == y) w := by
  simp [Op.equalIn, run_underlying Try.underlying23]
theorem part23a (x y : Int) (w : World) : (part 23 #[.int .u64 x, .int .u64 y] 0).run Try.prog w = .ok (.int .u64 x) w := by
  simp [part]
theorem part23b (x y : Int) (w : World) : (part 23 #[.int .u64 x, .int .u64 y] 1).run Try.prog w = .ok (.int .u64 y) w := by
  simp [part]
theorem size23 (w : World) : (sizeOf 23).run Try.prog w = .ok 1 w := by kernel_rfl
theorem eqB25 (d : Nat) (w : World) (x0 x1 y0 y1 : Int) : (Op.equalIn (d + 2) 25 (.agg #[.int .u64 x0, .int .u64 x1]) (.agg #[.int .u64 y0, .int .u64 y1])).run Try.prog w = .ok (x0 == y0 && x1 == y1) w := by
  have hr : List.range' 0 2 = [0, 1] := rfl
  rw [Op.equalIn]
  simp only [Sem.run_bind, run_underlying Try.underlying25, Result.andThen_ok, size23, Std.Legacy.Range.forIn_eq_forIn_range', Std.Legacy.Range.size]
  simp only [Nat.sub_zero, Nat.add_one_sub_one, Nat.div_one, hr, List.forIn_cons, List.forIn_nil, Sem.run_bind, part23a, part23b, Nat.zero_mul, Nat.one_mul, Result.andThen_ok, eqU23]
  cases h0 : x0 == y0 <;> cases h1 : x1 == y1 <;> simp [part23b, eqU23, h1]
theorem eqB25' (w : World) (x0 x1 y0 y1 : Int) : (Op.equalIn 10000 25 (.agg #[.int .u64 x0, .int .u64 x1]) (.agg #[.int .u64 y0, .int .u64 y1])).run Try.prog w = .ok (x0 == y0 && x1 == y1) w := eqB25 9998 w x0 x1 y0 y1
theorem eqM (a s : Nat) : (loM a == loM s && hiM a == hiM s) = decide (a = s) := by
  by_cases h : a = s
  · subst h; simp
  · rw [decide_eq_false h, Bool.eq_false_iff]
    intro hc
    simp only [Bool.and_eq_true, beq_iff_eq] at hc
    exact h (pairM hc.1 hc.2)
theorem eqBM (w : World) (a s : Nat) : (Op.equalIn 10000 25 (.agg #[.int .u64 (loM a), .int .u64 (hiM a)]) (.agg #[.int .u64 (loM s), .int .u64 (hiM s)])).run Try.prog w = .ok (decide (a = s)) w := by rw [eqB25', eqM]
attribute [local go_sem] eqBM
/-- a set with the parents of all that is in it -/
def stepR (par : List Nat) (l : List Nat) (s : Nat) : Nat := l.foldl (fun a n => a ||| par.getD n 0) s
def closeR (par : List Nat) : Nat → Nat → Option Nat
  | 0, _ => none
  | f + 1, s => if stepR par (listM s) s = s then some s else closeR par f (stepR par (listM s) s)
theorem stepR_lt {par : List Nat} (hp : ∀ n, par.getD n 0 < 2 ^ 128) : ∀ (l : List Nat) (s : Nat), s < 2 ^ 128 → stepR par l s < 2 ^ 128
  | [], s, h => h
  | n :: l, s, h => stepR_lt hp l _ (Nat.or_lt_two_pow h (hp n))
theorem stepR_take {par l : List Nat} {k n s : Nat} (h : l[k]? = some n) : stepR par (l.take (k + 1)) s = stepR par (l.take k) s ||| par.getD n 0 := by
  unfold stepR
  rw [List.take_add_one, h, List.foldl_append]
  rfl
/-- what lies there while a set is closed -/
def TkInv (par : List Nat) (S g : Nat) (w1 : World) (f : Nat) (w : World) : Prop := ∃ s, closeR par f s = some S ∧ s < 2 ^ 128 ∧ w.heap[g]? = some (.cells (cM s).toArray 25 (0, 0)) ∧ Below g w1 w
theorem par_at {w : World} {A : Option Addr} {par : List Nat} (h : Rd cM 2 w A par) {n : Nat} (hn : n < par.length) : ∃ b o, A = some ⟨b, o, none⟩ ∧ (loadVar 25 ⟨b, o + n * 2, none⟩).run Try.prog w = .ok (mV (par.getD n 0)) w := by
  have e : par[n]? = some (par.getD n 0) := by rw [List.getD_eq_getElem?_getD, List.getElem?_eq_getElem hn]; rfl
  obtain ⟨b, o, hA, hat⟩ := h n _ e
  exact ⟨b, o, hA, run_loadL (cs := cM (par.getD n 0)) cisAgg25 csize25 rfl hat⟩
set_option maxRecDepth 100000 in
set_option maxHeartbeats 16000000 in
theorem rtakes_ok (par : List Nat) (vp : Value) (x f t S F0 : Nat) (w : World) (hs : Sl cM 2 0 w vp par) (hl : par.length = 128) (hp : ∀ n, par.getD n 0 < 2 ^ 128) (hx : x < 128) (hf : f < 128) (ht : t < 128) (hc : closeR par F0 (ofM [x]) = some S) (hS : S < 2 ^ 128) :
    Calls Try.prog 58 #[vp, .int .i64 x, .int .i64 f, .int .i64 t] w fun e w' => e = .returned (.bool (S.testBit t && (par.getD t 0).testBit f)) ∧ Below w.heap.size w w' := by
  obtain ⟨A, c, rfl, hr, -⟩ := hs
  rw [hl]
  have HX8 : ofM [x] < 2 ^ 128 := ofM_lt (by simpa using hx)
  have HOF := Lib.hid (fun v w2 (h : Sl cN 1 0 w2 v [x]) => rOf_ok [x] v w2 h (by simpa using hx) (by simp))
  have HR := Lib.hid hr
  have HL := Lib.hid hl
  have HP := Lib.hid hp
  have HC0 := Lib.hid hc
  have F8 := Lib.hid hf
  have T8 := Lib.hid ht
  have S8 := Lib.hid hS
  obtain ⟨M0, hM0⟩ : ∃ M0, M0 = ofM [x] := ⟨_, rfl⟩
  rw [← hM0] at HOF HC0 HX8
  unfold mV at HOF
  have M8 := Lib.hid HX8
  clear hr hl hp hc hf ht hS HX8 hM0
  go_enter Try.func58, Try.ntmps58
  go_wp2_with fail
  have b0 : Below w.heap.size w (w.alloc (.cells #[.int .i64 x] 3)) := (Below.refl _ _).alloc (Nat.le_refl _) _
  have hsl : Sl cN 1 0 (w.alloc (.cells #[.int .i64 x] 3)) (.slice (some ⟨w.heap.size, 0, none⟩) 1 1) [x] := by
    refine ⟨_, _, rfl, fun i r hi => ?_, fun h => (by cases h), fun a ha => Nat.zero_le _, Nat.le_refl _⟩
    have : i = 0 ∧ r = x := by
      rcases i with _ | i
      · simp at hi; exact ⟨rfl, hi.symm⟩
      · simp at hi
    obtain ⟨rfl, rfl⟩ := this
    exact ⟨_, _, rfl, AtL_heap (heap_at rfl)⟩
  with_reducible refine (HOF.out _ _ hsl).mono ?_
  rintro e w0 ⟨rfl, hb0⟩
  have B0 := Lib.hid (bthen b0 hb0)
  clear hb0 b0 hsl HOF
  go_wp2_with (first | (refine wpList_storeN rfl 25 (.tmp 9) (.tmp 18) rfl rfl w0.heap.size (cM M0).toArray rfl rfl 25 _ (heap_at rfl) cinfo25s rfl (by simp [Value.oneCell', cM]) ?_; intro w1 hz1 hb1 hn1 hs1; have b1 := below_storeA hb1; have Z1 := Lib.hid hz1; have B1 := Lib.hid (bthen B0.out b1); have G1 := Lib.hid (show w0.heap.size < w1.heap.size by rw [hs1]; simp); clear hz1 hb1 hn1 hs1 b1))
  obtain ⟨g, hg⟩ : ∃ g, g = w0.heap.size := ⟨_, rfl⟩
  rw [← hg] at Z1 G1
  rw [← hg]
  have GW : Hid (w.heap.size ≤ g) := Lib.hid (by rw [hg]; exact B0.out.size)
  clear hg B0
  have TS : Hid (∃ f, TkInv par S g w1 f w1) := Lib.hid ⟨F0, M0, HC0.out, M8.out, Z1.out, Below.refl _ _⟩
  clear HC0 M8 Z1
  go_loopw [11] (fun _ wr => ∃ f, TkInv par S g w1 f wr) (fun _ wr => fuelOf fun f => TkInv par S g w1 f wr)
  case atStart => exact TS.out
  case round =>
    have hF := fuelOf_spec hrel
    obtain ⟨F, hFe⟩ : ∃ F, F = fuelOf (fun f => TkInv par S g w1 f wr) := ⟨_, rfl⟩
    rw [← hFe] at hF
    have HFE := Lib.hid hFe
    obtain ⟨s, hcl, hs8, hk, hb⟩ := hF
    clear hrel hFe TS
    have KS0 := Lib.hid hk
    have BR := Lib.hid hb
    have S8' := Lib.hid hs8
    have HLI := Lib.hid (fun w2 => rList_ok s hs8 w2)
    unfold mV at HLI
    have HCL := Lib.hid hcl
    clear hk hb hs8 hcl
    go_wp2_with (refine wpList_loadL rfl 25 (.tmp 9) rfl g 0 (.agg #[.int .u64 (loM s), .int .u64 (hiM s)]) rfl (cldM KS0.out) ?_)
    with_reducible refine (HLI.out _).mono ?_
    rintro e w2 ⟨⟨v, rfl, ho⟩, hb2⟩
    obtain ⟨Al, cl, rfl⟩ := own_small ho
    have OL := Lib.hid ho
    have B2 := Lib.hid (BR.out.trans ⟨hb2.os, hb2.tape, hb2.output, hb2.size, fun i hi => hb2.block i (by have := BR.out.size; have := G1.out; omega)⟩)
    have K2 := Lib.hid (heap_keep hb2 KS0.out)
    have BW2 := Lib.hid (B1.out.trans (B2.out.mono GW.out))
    clear hb2 ho KS0 BR HLI
    go_wp2_with (first | (refine wpList_loadL rfl 25 (.tmp 9) rfl g 0 (.agg #[.int .u64 (loM s), .int .u64 (hiM s)]) rfl (cldM K2.out) ?_) | (refine wpList_storeN rfl 25 (.tmp 12) (.tmp 22) rfl rfl w2.heap.size (cM s).toArray rfl rfl 25 _ (heap_at rfl) cinfo25s rfl (by simp [Value.oneCell', cM]) ?_; intro w3 hz3 hb3 hn3 hs3; have b3 := below_storeA hb3; have Z3 := Lib.hid hz3; have B3 := Lib.hid b3; clear hz3 hb3 hn3 hs3 b3))
    obtain ⟨gn, hgn⟩ : ∃ gn, gn = w2.heap.size := ⟨_, rfl⟩
    rw [← hgn] at Z3
    rw [← hgn]
    have GN := Lib.hid hgn
    clear hgn
    obtain ⟨n, hn⟩ : ∃ n, n = (listM s).length := ⟨_, rfl⟩
    rw [← hn]
    have HN := Lib.hid hn
    have hn8 : n ≤ 128 := by rw [hn]; unfold listM; exact Nat.le_trans (List.length_filter_le ..) (by simp)
    clear hn
    go_loopw [13] (fun i wr => ∃ k : Nat, k ≤ n ∧ i = .int .i64 k ∧ Hid (Below w2.heap.size w2 wr) ∧ Hid (wr.heap[gn]? = some (.cells (cM (stepR par ((listM s).take k) s)).toArray 25 (0, 0)))) (fun i _ => n - (intOf i).toNat)
    case atStart => exact ⟨0, Nat.zero_le _, rfl, B3, Z3⟩
    case round =>
      clear B3 Z3
      obtain ⟨k, hk, rfl, hb, hz⟩ := hrel
      by_cases hlt : k < n
      · have hwk1 : IntKind.i64.wrap ((k : Int) + 1) = (k : Int) + 1 := by rw [IntKind.wrap_i64]; omega
        have hk0 : (0 : Int) ≤ (k : Int) := by omega
        have hkn : (k : Int) < (n : Int) := by omega
        obtain ⟨m, hmk⟩ : ∃ m, (listM s)[k]? = some m := ⟨_, List.getElem?_eq_getElem (by rw [← HN.out]; exact hlt)⟩
        have hm8 := listM_lt (List.mem_of_getElem? hmk)
        have hm0 : (0 : Int) ≤ (m : Int) := by omega
        have hm1 : (m : Int) < 128 := by omega
        have HTK := Lib.hid (stepR_take (par := par) (s := s) hmk)
        obtain ⟨a, ha⟩ : ∃ a, a = stepR par ((listM s).take k) s := ⟨_, rfl⟩
        rw [← ha] at HTK hz
        have ha8 : a < 2 ^ 128 := by rw [ha]; exact stepR_lt HP.out _ _ S8'.out
        obtain ⟨p, hp⟩ : ∃ p, p = par.getD m 0 := ⟨_, rfl⟩
        have hp8 : p < 2 ^ 128 := by rw [hp]; exact HP.out m
        have HOR := Lib.hid (fun w5 => rOr_ok a p ha8 hp8 w5)
        unfold mV at HOR
        have hsl := Sl_of_row cN_len (by omega) (own_lower OL.out (Nat.zero_le _)) rfl
        obtain ⟨Al', cl', he', hrl, -⟩ := hsl
        injection he' with e1 e2 e3
        subst e1 e3
        clear e2
        obtain ⟨bl, ol, rfl, hatl⟩ := hrl k m hmk
        have ql : w2.cell? ⟨bl, ol + k, none⟩ = some (.int .i64 (m : Int)) := by
          have := hatl 0 _ rfl
          rwa [Nat.add_zero, Nat.mul_one] at this
        obtain ⟨bp, op, rfl, hld⟩ := par_at (HR.out.below (bthen BW2.out hb.out)) (n := m) (by rw [HL.out]; exact hm8)
        rw [← hp] at hld
        have HPM := Lib.hid hp
        have hatp := (HR.out.below (bthen BW2.out hb.out)) m p (by rw [hp, List.getD_eq_getElem?_getD, List.getElem?_eq_getElem (by rw [HL.out]; exact hm8)]; rfl)
        obtain ⟨bp', op', he2, hatp⟩ := hatp
        injection he2 with he2
        injection he2 with e1 e2 _
        subst e1 e2
        have HC : ∀ w5, Below wr.heap.size wr w5 → w5.cell? ⟨bl, ol + k, none⟩ = some (.int .i64 (m : Int)) := fun w5 h5 => bcell (bthen hb.out h5) ql
        have HLA : Hid (∀ w5, Below wr.heap.size wr w5 → (loadVar 25 ⟨gn, 0, none⟩).run Try.prog w5 = .ok (mV a) w5) := Lib.hid fun w5 h5 => cldM (heap_keep h5 hz.out)
        have HLP : Hid (∀ w5, Below wr.heap.size wr w5 → (loadVar 25 ⟨bp, op + m * 2, none⟩).run Try.prog w5 = .ok (mV p) w5) := Lib.hid fun w5 h5 => run_loadL (cs := cM p) cisAgg25 csize25 rfl (hatp.below h5)
        unfold mV at HLA HLP
        clear hmk hm8 ha ha8 hp hp8 hatl hrl ql hld hatp
        go_wp2_with fail
        refine Og.Tail.walk_lit 9 [[],[],[],[],[2,3],[4,2,3],[1,5,4,2,3],[6,1,5,4,2,3],[0,7,6,1,5,4,2,3],[8,0,1,2,3,4,5,6,7]] (fun w2 => Below wr.heap.size wr w2) (fun w1 w2 => Below w1.heap.size w1 w2) (by kernel_rfl) (by kernel_rfl) (by kernel_rfl) (bdrew) ?_
        simp only [List.take_succ_cons, List.take_zero, List.drop_succ_cons, List.drop_zero]
        refine Og.step_pure (fun _ => Below.refl _ _) ?_; apply Exists.intro; refine And.intro ?_ ?_; focus (intro vs w2 hC hk; have hl := HLA.out w2 hC; refine Og.OptB.out ?_; revert hk; simp only [Og.KS, Og.K0, Og.Is, List.getD_cons_zero, List.getD_cons_succ, List.getD_nil, List.contains_cons, List.contains_nil, Nat.reduceAdd, Nat.reduceBEq, Bool.or_false, Bool.false_or, Bool.or_true, Bool.true_or, Bool.false_eq_true, false_implies, true_implies, true_and, and_true, forall_const]; intros; exact optB_loadL (by go_simp) rfl (by go_simp) hl ⟨rfl, rfl⟩)
        iterate 6 (refine Og.step_pure (fun _ => Below.refl _ _) ?_; apply Exists.intro; refine And.intro ?_ ?_; focus (intro vs w2 hC hk; have hm := HC w2 hC; revert hk; simp only [Og.KS, Og.K0, Og.Is, List.getD_cons_zero, List.getD_cons_succ, List.getD_nil, List.contains_cons, List.contains_nil, Nat.reduceAdd, Nat.reduceBEq, Bool.or_false, Bool.false_or, Bool.or_true, Bool.true_or, Bool.false_eq_true, false_implies, true_implies, true_and, and_true, forall_const]; intros; go_simp; rfl))
        refine Og.step_pure (fun _ => Below.refl _ _) ?_; apply Exists.intro; refine And.intro ?_ ?_; focus (intro vs w2 hC hk; have hl := HLP.out w2 hC; refine Og.OptB.out ?_; revert hk; simp only [Og.KS, Og.K0, Og.Is, List.getD_cons_zero, List.getD_cons_succ, List.getD_nil, List.contains_cons, List.contains_nil, Nat.reduceAdd, Nat.reduceBEq, Bool.or_false, Bool.false_or, Bool.or_true, Bool.true_or, Bool.false_eq_true, false_implies, true_implies, true_and, and_true, forall_const]; intros; exact optB_loadL (by go_simp) rfl (by go_simp) hl ⟨rfl, rfl⟩)
        refine Og.step_one ?_; apply Exists.intro; refine And.intro ?_ ?_; focus (intro vs w2 hC hk; have hm := HC w2 hC; revert hk; simp only [Og.KS, Og.K0, Og.Is, List.getD_cons_zero, List.getD_cons_succ, List.getD_nil, List.contains_cons, List.contains_nil, Nat.reduceAdd, Nat.reduceBEq, Bool.or_false, Bool.false_or, Bool.or_true, Bool.true_or, Bool.false_eq_true, false_implies, true_implies, true_and, and_true, forall_const]; intros; go_simp; with_reducible refine (HOR.out _).mono ?_; rintro e w3 ⟨rfl, hb⟩; exact Og.RetV.mk ⟨bthen hC hb, hb, rfl⟩)
        intro vs w2 hC hk
        have hm := HC w2 hC
        simp only [Og.KS, Og.K0, Og.Is, List.getD_cons_zero, List.getD_cons_succ, List.getD_nil, List.contains_cons, List.contains_nil, Nat.reduceAdd, Nat.reduceBEq, Bool.or_false, Bool.false_or, Bool.or_true, Bool.true_or, Bool.false_eq_true, false_implies, true_implies, true_and, and_true, forall_const] at hk
        simp only [hk, Act.put, List.setIfInBounds_toArray, List.set_cons_zero, List.set_cons_succ]
        clear hk
        have B5 := Lib.hid (bthen hb.out hC)
        have Z5 := Lib.hid (heap_keep hC hz.out)
        clear hC HC hm HLA HLP HOR hb hz
        go_wp2_with (first | (refine wpList_storeN rfl 25 (.tmp 12) (.tmp 37) rfl rfl gn (cM (a ||| p)).toArray rfl rfl 25 _ Z5.out cinfo25s rfl (by simp [Value.oneCell', cM]) ?_; intro w6 hz6 hb6 hn6 hs6; have Z6 := Lib.hid hz6; have B6 := Lib.hid (B5.out.trans (hb6 _ (by have := GN.out; omega))); clear hz6 hb6 hn6 hs6))
        go_roundw
        case rel => exact ⟨k + 1, by omega, by go_num, B6, by rw [HTK.out, ← HPM.out]; exact Z6⟩
        case measure => simp [intOf]; omega
      · have hkn2 : k = n := by omega
        have hkf : ¬ ((k : Int) < (n : Int)) := by omega
        obtain ⟨a, ha⟩ : ∃ a, a = stepR par (listM s) s := ⟨_, rfl⟩
        have ha8 : a < 2 ^ 128 := by rw [ha]; exact stepR_lt HP.out _ _ S8'.out
        have Z5 : Hid (wr.heap[gn]? = some (.cells (cM a).toArray 25 (0, 0))) := Lib.hid (by
          have h := hz.out
          rw [List.take_of_length_le (by rw [hkn2]; exact Nat.le_of_eq HN.out.symm), ← ha] at h
          exact h)
        have GL : Hid (g < gn) := Lib.hid (by rw [GN.out]; have := (Array.getElem?_eq_some_iff.1 K2.out).1; exact this)
        have K5 := Lib.hid ((hb.out.block g (by have := GL.out; have := GN.out; omega)).trans K2.out)
        have BG := Lib.hid (B2.out.trans (hb.out.mono (by have := GL.out; have := GN.out; omega)))
        clear hkn2 hz
        have HA := Lib.hid ha
        clear ha
        cases F with
        | zero => cases HCL.out
        | succ F =>
          have hcl := HCL.out
          rw [closeR, ← HA.out] at hcl
          by_cases he : a = s
          · rw [if_pos he] at hcl
            injection hcl with hcl
            subst he
            rw [hcl] at Z5 K5 ⊢
            clear hcl HCL HA HFE
            have hdt : decide (S = S) = true := decide_eq_true rfl
            have ht8 := T8.out
            have ht0 : (0 : Int) ≤ (t : Int) := by omega
            have ht1 : (t : Int) < 128 := by omega
            have HHS := Lib.hid (fun w2 => rHas_ok S t S8.out T8.out w2)
            obtain ⟨p, hp⟩ : ∃ p, p = par.getD t 0 := ⟨_, rfl⟩
            have HHP := Lib.hid (fun w2 => rHas_ok p f (by rw [hp]; exact HP.out t) F8.out w2)
            unfold mV at HHS HHP
            have BWR := Lib.hid (B1.out.trans (BG.out.mono GW.out))
            obtain ⟨bp, op, rfl, hatp⟩ := (HR.out.below BWR.out) t p (by rw [hp, List.getD_eq_getElem?_getD, List.getElem?_eq_getElem (by rw [HL.out]; exact T8.out)]; rfl)
            have HAP := Lib.hid hatp
            have HPT := Lib.hid hp
            clear hatp ht8 hp
            go_wp2_with (first | (refine wpList_loadL rfl 25 (.tmp 12) rfl gn 0 (.agg #[.int .u64 (loM S), .int .u64 (hiM S)]) rfl (cldM Z5.out) ?_) | (refine wpList_loadL rfl 25 (.tmp 9) rfl g 0 (.agg #[.int .u64 (loM S), .int .u64 (hiM S)]) rfl (cldM K5.out) ?_))
            with_reducible refine (HHS.out _).mono ?_
            rintro e w6 ⟨rfl, hb6⟩
            have B6 := Lib.hid (bthen BWR.out hb6)
            have q0 : w6.cell? ⟨bp, op + t * 2, none⟩ = some (.int .u64 (loM p)) := by have := (HAP.out.below hb6) 0 _ rfl; rwa [Nat.add_zero] at this
            have q1 : w6.cell? ⟨bp, op + t * 2 + 1, none⟩ = some (.int .u64 (hiM p)) := (HAP.out.below hb6) 1 _ rfl
            clear hb6 hdt
            cases hst : S.testBit t with
            | false =>
              have HST := Lib.hid hst
              clear hst q0 q1
              go_wp2_with fail
              go_ret
              exact ⟨by rw [HST.out]; rfl, B6.out⟩
            | true =>
              have HST := Lib.hid hst
              clear hst
              go_wp2_with fail
              with_reducible refine (HHP.out _).mono ?_
              rintro e w7 ⟨rfl, hb7⟩
              have B7 := Lib.hid (bthen B6.out hb7)
              clear hb7 q0 q1
              go_wp2_with fail
              go_ret
              exact ⟨by rw [HST.out, ← HPT.out]; simp, B7.out⟩
          · rw [if_neg he] at hcl
            have hdt : decide (a = s) = false := decide_eq_false he
            have HCL2 := Lib.hid hcl
            have HA8 := Lib.hid ha8
            clear hcl he HCL ha8
            go_wp2_with (first | (refine wpList_loadL rfl 25 (.tmp 12) rfl gn 0 (.agg #[.int .u64 (loM a), .int .u64 (hiM a)]) rfl (cldM Z5.out) ?_) | (refine wpList_loadL rfl 25 (.tmp 9) rfl g 0 (.agg #[.int .u64 (loM s), .int .u64 (hiM s)]) rfl (cldM K5.out) ?_) | (refine wpList_storeN rfl 25 (.tmp 9) (.tmp 41) rfl rfl g (cM a).toArray rfl rfl 25 _ K5.out cinfo25s rfl (by simp [Value.oneCell', cM]) ?_; intro w6 hz6 hb6 hn6 hs6; have T6 := Lib.hid (show TkInv par S g w1 F w6 from ⟨a, HCL2.out, HA8.out, hz6, BG.out.trans (hb6 _ (Nat.le_refl _))⟩); clear hz6 hb6 hn6 hs6))
            go_roundw
            case rel => exact ⟨F, T6.out⟩
            case measure => exact Nat.lt_of_le_of_lt (fuelOf_le T6.out) (by have := HFE.out; omega)

end Go.Proofs.Ytpklcefiabjplaa
