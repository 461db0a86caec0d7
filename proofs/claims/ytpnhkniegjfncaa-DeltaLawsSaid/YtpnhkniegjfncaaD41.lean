/- delta.Apply: what it answers; conditions: the table and the list fit the memory. -/
import Derived.Test.YtpnhkniegjfncaaD40
import Derived.Test.YtpnhkniegjfncaaD39
import Derived.OwnWalk
namespace Go.Proofs.Ytpnhkniegjfncaa
open Go.ChangeShapes Go.WideShapes Go.ChangeAt Go.RowKit
set_option linter.unusedVariables false
set_option linter.unusedSimpArgs false
attribute [local go_sem] Og.Opt Og.OpY
attribute [local go_sem high] eqB1 eqP1 eqR1 eqC1

set_option maxRecDepth 100000 in
set_option maxHeartbeats 2000000 in
theorem Clone_own (xs : List Ro) (A : Option Addr) (c : Nat) (w : World) (hr : RdR w A xs) (hA0 : A = none → c = 0) (hl : xs.length ≤ 2513169434843) :
    Calls Try.prog 24 #[.slice A xs.length c] w fun e w' => (∃ v, e = .returned v ∧ w'.ownsRow w.heap.size 40 7 v xs.length (xs.flatMap rcV)) ∧ Below w.heap.size w w' := by
  cases A with
  | none =>
    obtain rfl := RdR_none hr
    obtain rfl := hA0 rfl
    have q22 : ∀ (w : World) (a : Option Addr) (n c : Nat), (binOp .eql 22 (.slice a n c) (.slice none 0 0)).run Try.prog w = .ok (.bool a.isNone) w := fun w a n c => Lib.run_eql_slice_nil w _ _ a n c 0 0 Try.underlying22
    go_enter Try.func24, Try.ntmps24
    go_wp2_with fail
    go_ret
    exact ⟨⟨_, rfl, World.ownsRow_nil _ _ _ _⟩, Below.refl _ _⟩
  | some ad =>
    obtain ⟨n, hn⟩ : ∃ n, n = xs.length := ⟨_, rfl⟩
    rw [← hn]
    have HN := Lib.hid hn
    have HR := Lib.hid hr
    have HL := Lib.hid hl
    clear hr hn hl
    have q22 : ∀ (w : World) (a : Option Addr) (n c : Nat), (binOp .eql 22 (.slice a n c) (.slice none 0 0)).run Try.prog w = .ok (.bool a.isNone) w := fun w a n c => Lib.run_eql_slice_nil w _ _ a n c 0 0 Try.underlying22
    go_enter Try.func24, Try.ntmps24
    go_wp2_with (at_builtin; refine wpList_spreadR rfl (.tmp 5) (.tmp 6) 22 rfl Try.underlying22 info40 w.heap.size (.slice (some ⟨w.heap.size, 0, none⟩) 0 0) rfl (fresh_row w 40 7 w.heap.size (Nat.le_refl _)) (by simp) (by simp) xs HL.out (some ad) c (by rw [← HN.out]; rfl) (HR.out.below ((Below.refl _ _).alloc (Nat.le_refl _) _)) (fun h => by cases h) ?_; intro v' w' hown hv hgrow)
    go_ret
    exact ⟨⟨_, rfl, by rw [HN.out]; exact hown⟩, ((Below.refl _ _).alloc (Nat.le_refl _) _).grown hgrow (by simp) (fun j hj => by simp [Value.ownBlock] at hj; omega)⟩

theorem own_lower {w : World} {B B' n sz : Nat} {e : TypeId} {v : Value} {xs : List Value} (h : w.ownsRow B e sz v n xs) (hB : B' ≤ B) : w.ownsRow B' e sz v n xs := by
  refine ⟨h.1, ?_⟩
  rcases h.2 with h0 | ⟨g, cap, cur, hv, hb, r⟩
  · exact .inl h0
  · exact .inr ⟨g, cap, cur, hv, Nat.le_trans hB hb, r⟩
theorem own_some {w : World} {base e sz n : Nat} {v : Value} {xs : List Value} (h : w.ownsRow base e sz v n xs) (hv : v ≠ .slice none 0 0) : ∃ g cap, v = .slice (some ⟨g, 0, none⟩) n cap ∧ base ≤ g ∧ g < w.heap.size := by
  rcases h.2 with ⟨h0, _⟩ | ⟨g, cap, cur, hv', hb, hg, _⟩
  · exact absurd h0 hv
  · exact ⟨g, cap, hv', hb, (Array.getElem?_eq_some_iff.1 hg).1⟩
/-- what applying answers -/
def ApplyR (t0 : List Ro) (xs : List Ch) (B : Nat) (e : Ending) (w' : World) : Prop :=
  ∃ v, e = .returned (.tuple #[v, .int .i64 ((applyV t0 xs).2.1 : Nat), .int .i64 (applyV t0 xs).2.2]) ∧ w'.ownsRow B 40 7 v (applyV t0 xs).1.length ((applyV t0 xs).1.flatMap rcV)
theorem ApplyR.err {t0 : List Ro} {xs : List Ch} {B i : Nat} {e0 : Int} {w' : World} (h : applyV t0 xs = ([], i, e0)) : ApplyR t0 xs B (.returned (.tuple #[.slice none 0 0, .int .i64 (i : Int), .int .i64 e0])) w' := by
  unfold ApplyR
  rw [h]
  exact ⟨_, rfl, World.ownsRow_nil _ _ _ _⟩
theorem ApplyR.fin {t0 t : List Ro} {xs : List Ch} {B : Nat} {v : Value} {w' : World} (h : applyV t0 xs = (t, 0, 0)) (ho : w'.ownsRow B 40 7 v t.length (t.flatMap rcV)) : ApplyR t0 xs B (.returned (.tuple #[v, .int .i64 0, .int .i64 0])) w' := by
  unfold ApplyR
  rw [h]
  exact ⟨_, rfl, ho⟩
theorem below_storeA {w w3 : World} {ob : Obj} (hb : ∀ B, B ≤ w.heap.size → Below B (w.alloc ob) w3) : Below w.heap.size w w3 := ((Below.refl _ _).alloc (Nat.le_refl _) _).trans (hb _ (Nat.le_refl _))
theorem row_newA {w : World} {base n sz g : Nat} {e : TypeId} {v : Value} {xs : List Value} (h : w.ownsRow base e sz v n xs) (hg : w.heap.size ≤ g) : v.ownBlock ≠ some g := fun e => Nat.lt_irrefl g (Nat.lt_of_lt_of_le (h.lt g e).2 hg)
theorem AtC.old {w : World} {b o : Nat} {c : Ch} (h : AtC w b o c) : AtR w b (o + 1) c.o := by
  obtain ⟨h0, h1, h2, h3, h4, h5, h6, h7, _⟩ := h
  exact ⟨h1, h2, h3, h4, h5, h6, h7⟩
theorem AtC.new {w : World} {b o : Nat} {c : Ch} (h : AtC w b o c) : AtR w b (o + 8) c.n := by
  obtain ⟨h0, h1, h2, h3, h4, h5, h6, h7, h8, h9, h10, h11, h12, h13, h14⟩ := h
  exact ⟨h8, h9, h10, h11, h12, h13, h14⟩
theorem isAgg40A (w : World) : (isAgg 40).run Try.prog w = .ok true w := by kernel_rfl
theorem run_loadRA {w : World} {b o : Nat} {x : Ro} (h : AtR w b o x) : (loadVar 40 ⟨b, o, none⟩).run Try.prog w = .ok (vR x) w := by
  have hc := run_loadCells_list (P := Try.prog) w ⟨b, o, none⟩ (rcV x) (fun j v hv => by rw [Addr.add_lit]; exact AtR_get h j v hv)
  rw [rcV_len] at hc
  unfold loadVar
  simp only [Sem.run_bind, isAgg40A, Result.andThen_ok, if_true, size40, hc, Sem.run_pure]
  rfl
theorem wpList_loadRA {ops : Array Oper} {rest : List Oper} {o : Oper} {a : Act} {w : World} {Q : Exit → Act → World → Prop} {b off : Nat} {x : Ro} (hgd : o.guard = none) (t : Operand) (ho : o.op = .load 40 t) (ha : a.eval t = .pointer (some ⟨b, off, none⟩)) (h : AtR w b off x)
    (k : wpList Try.prog ops Q rest (a.put o.dst (.agg #[.int .u32 x.p.a, .int .i64 x.p.l, .int .i64 x.m, .int .u64 x.o0, .int .u64 x.o1, .int .u64 x.h0, .int .u64 x.h1])) w) : wpList Try.prog ops Q (o :: rest) a w := by
  refine wpList_plain hgd fun K hK => ?_
  unfold Oper.wp execOp
  simp only [ho, ha, Instr.loadAt, Instr.sureAddr, Sem.run_bind, Sem.run_pure, Result.andThen_ok, run_loadRA h]
  exact hK _ _ k
theorem stepA_5 {t : List Ro} {x : Ch} {k : Nat} (h1 : x.k = 1) (hk : k = cutK t (atC x)) (hh : hitP t (atC x) k = true) : stepA t x = .error 5 := by
  unfold stepA; rw [if_pos h1, ← hk, hh]; rfl
theorem stepA_1 {t : List Ro} {x : Ch} {k : Nat} (h1 : x.k = 1) (hk : k = cutK t (atC x)) (hh : hitP t (atC x) k = false) : stepA t x = .ok (t.take k ++ x.n :: t.drop k) := by
  unfold stepA; rw [if_pos h1, ← hk, hh]; rfl
theorem stepA_8 {t : List Ro} {x : Ch} {k : Nat} (h1 : ¬ x.k = 1) (hk : k = cutK t (atC x)) (hh : hitP t (atC x) k = false) : stepA t x = .error 8 := by
  unfold stepA; rw [if_neg h1, ← hk, hh]; rfl
theorem stepA_8' {t : List Ro} {x : Ch} {k : Nat} {r : Ro} (h1 : ¬ x.k = 1) (hk : k = cutK t (atC x)) (hx : t[k]? = some r) (hne : ¬ r = x.o) : stepA t x = .error 8 := by
  unfold stepA; rw [if_neg h1, ← hk, hx]; simp [hne]
theorem stepA_2 {t : List Ro} {x : Ch} {k : Nat} (h1 : ¬ x.k = 1) (h2 : x.k = 2) (hk : k = cutK t (atC x)) (hh : hitP t (atC x) k = true) (hx : t[k]? = some x.o) : stepA t x = .ok (t.eraseIdx k) := by
  unfold stepA; rw [if_neg h1, ← hk, hh, hx]; simp [h2]
theorem stepA_3 {t : List Ro} {x : Ch} {k : Nat} (h1 : ¬ x.k = 1) (h2 : ¬ x.k = 2) (hk : k = cutK t (atC x)) (hh : hitP t (atC x) k = true) (hx : t[k]? = some x.o) : stepA t x = .ok (t.set k x.n) := by
  unfold stepA; rw [if_neg h1, ← hk, hh, hx]; simp [h2]
theorem okC_good {xs : List Ch} {i : Nat} {c : Ch} (hx : xs[i]? = some c) (h : okC xs i = true) : goodC c = true := by
  unfold okC at h
  rw [hx] at h
  simp only [Bool.and_eq_true] at h
  exact h.1

set_option maxRecDepth 100000 in
set_option maxHeartbeats 40000000 in
theorem Apply_ok (t0 : List Ro) (xs : List Ch) (A A' : Option Addr) (c c' : Nat) (w : World) (hr : RdR w A t0) (hr' : RdC w A' xs) (hA0 : A = none → c = 0) (hl : t0.length ≤ 2513169434843) (hl' : xs.length ≤ 1172812402926) (hf : ∀ (i : Nat) r, t0[i]? = some r → FitR r) (hf' : ∀ (i : Nat) r, xs[i]? = some r → FitC r) :
    Calls Try.prog 20 #[.slice A t0.length c, .slice A' xs.length c'] w fun e w' => ApplyR t0 xs w.heap.size e w' ∧ Below w.heap.size w w' := by
  have S0 := Lib.hid (Sound_ok t0 A c w hr (by omega))
  have S1 := Lib.hid (fun (w2 : World) (hb : Below w.heap.size w w2) => Clone_own t0 A c w2 (hr.below hb) hA0 hl)
  have S2 := Lib.hid (fun (k : Nat) (hk : k < xs.length) (w2 : World) (hb : Below w.heap.size w w2) => soundAt_ok xs k A' c' w2 (hr'.below hb) hk (by omega))
  have HF := Lib.hid hf'
  have HTT := Lib.hid (fun h => Tab.of (t := t0) h hf)
  obtain ⟨nx, hnx⟩ : ∃ n, n = xs.length := ⟨_, rfl⟩
  have HR' := Lib.hid hr'
  rw [← hnx] at S2 hl' ⊢
  have HN := Lib.hid hnx
  obtain ⟨nt, hnt⟩ : ∃ n, n = t0.length := ⟨_, rfl⟩
  rw [← hnt] at S0 S1 ⊢
  have HNT := Lib.hid hnt
  clear hnx hr hr' hf hf' hl hnt
  go_enter Try.func20, Try.ntmps20
  go_wp2_with fail
  refine Calls.mono S0.out ?_
  rintro e w1 ⟨rfl, hb1⟩
  cases hs : sndT t0 with
  | false =>
    have E := Lib.hid (show applyV t0 xs = ([], 0, 1) by unfold applyV; rw [hs]; rfl)
    have B1 := Lib.hid hb1
    clear hb1 hs
    simp only [errT_f]
    go_wp2_with fail
    go_ret3
    exact ⟨ApplyR.err E.out, B1.out⟩
  | true =>
    have HS := Lib.hid hs
    have HT0 := Lib.hid (HTT.out hs)
    have H1 := Lib.hid (S1.out w1 hb1)
    have B1 := Lib.hid hb1
    clear hb1 hs S0 S1 HTT
    simp only [errT_t]
    go_wp2_with fail
    refine Calls.mono H1.out ?_
    rintro e w2 ⟨⟨v0, rfl, hown0⟩, hb2⟩
    have HO := Lib.hid (show w2.ownsRow w.heap.size 40 7 v0 t0.length (t0.flatMap rcV) by rw [← HNT.out]; exact own_lower hown0 B1.out.size)
    have BB := Lib.hid (bthen' B1.out B1.out.size hb2)
    clear hb2 hown0 H1 B1
    obtain ⟨w0, rfl⟩ : ∃ w0 : World, w0 = w2 := ⟨_, rfl⟩
    go_wp2_with fail
    go_loopw [4, 21] (fun tb i wr => ∃ (k : Nat) (t : List Ro), k ≤ nx ∧ i = .int .i64 k ∧ Hid (runA xs t0 k = .ok t) ∧ Hid (Tab t) ∧ Hid (wr.ownsRow w.heap.size 40 7 tb t.length (t.flatMap rcV)) ∧ Hid (Below w.heap.size w wr)) (fun _ i _ => nx - (intOf i).toNat)
    case atStart => exact ⟨0, t0, Nat.zero_le _, rfl, Lib.hid rfl, HT0, HO, BB⟩
    case round =>
      clear HO BB HT0
      obtain ⟨k, t, hk, rfl, hrun, htab, hown, hbw⟩ := hrel
      by_cases hlt : k < nx
      · have hwk : IntKind.i64.wrap (k : Int) = k := wrapk (by omega)
        have hwk1 : IntKind.i64.wrap ((k : Int) + 1) = (k : Int) + 1 := by rw [IntKind.wrap_i64]; omega
        have hk0 : (0 : Int) ≤ (k : Int) := by omega
        have hkn : (k : Int) < (nx : Int) := by omega
        obtain ⟨x, hx⟩ : ∃ r, xs[k]? = some r := ⟨_, List.getElem?_eq_getElem (by rw [← HN.out]; exact hlt)⟩
        obtain ⟨b, o, rfl, hat⟩ := (HR'.out.below hbw.out) k x hx
        have HX := Lib.hid hx
        have HAX := Lib.hid hat
        have HFX := Lib.hid (HF.out k x hx)
        have H32 := Lib.hid (S2.out k hlt)
        obtain ⟨Ab, cb, hv, hrd, _⟩ := SlR_of_row hown.out rfl
        subst hv
        have HRD := Lib.hid hrd
        have htl : t.length ≤ 141733920768 := htab.out.len
        obtain ⟨nl, hnl⟩ : ∃ n, n = t.length := ⟨_, rfl⟩
        rw [← hnl] at hown htl
        rw [← hnl]
        have HNL := Lib.hid hnl
        clear hx hat hrd hnl
        go_wp2_with (first | (refine wpList_loadC rfl (.tmp 24) rfl rfl HAX.out ?_) | (refine wpList_storeC rfl (.tmp 9) (.tmp 25) rfl rfl wr.heap.size rfl rfl _ (heap_at rfl) rfl ?_; intro w3 hz3 hb3 ho3 hs3; have HZ3 := Lib.hid (AtC_cells hz3); have b3 := below_storeA hb3; have B3 := Lib.hid (bthen' hbw.out hbw.out.size b3); have HO3 := Lib.hid (own_below hown.out b3); have HRD3 := Lib.hid (HRD.out.below b3); clear hz3 hb3 ho3 hs3 b3 hown hbw HRD HAX))
        refine Calls.mono (H32.out w3 B3.out) ?_
        rintro e w4 ⟨rfl, hb4⟩
        obtain ⟨gz, hgz⟩ : ∃ gz, gz = wr.heap.size := ⟨_, rfl⟩
        rw [← hgz] at HZ3
        rw [← hgz]
        have HZ4 := Lib.hid (HZ3.out.below hb4)
        have B4 := Lib.hid (bthen' B3.out B3.out.size hb4)
        have HO4 := Lib.hid (own_below HO3.out hb4)
        have HRD4 := Lib.hid (HRD3.out.below hb4)
        clear hb4 HZ3 B3 HO3 HRD3 H32 hgz
        cases hok : okC xs k with
        | false =>
          have E := Lib.hid (runA_bad hrun.out (by rw [← HN.out]; exact hlt) hok HS.out)
          clear hok
          go_wp2_with fail
          go_ret3
          exact ⟨ApplyR.err E.out, B4.out⟩
        | true =>
          have HOK := Lib.hid hok
          have HG := Lib.hid (okC_good HX.out hok)
          clear hok
          go_wp2_with (refine wpList_loadC rfl (.tmp 9) rfl rfl HZ4.out ?_)
          refine Calls.mono (at_ok x w4) ?_
          rintro e w5 ⟨rfl, hb5⟩
          have HZ5 := Lib.hid (HZ4.out.below hb5)
          have B5 := Lib.hid (bthen' B4.out B4.out.size hb5)
          have HO5 := Lib.hid (own_below HO4.out hb5)
          have HRD5 := Lib.hid (HRD4.out.below hb5)
          clear hb5 HZ4 B4 HO4 HRD4
          have H39 := Lib.hid (search_ok t (atC x) Ab cb w5 HRD5.out (by rw [← HNL.out]; omega) htab.out.srt)
          rw [← HNL.out] at H39
          go_wp2_with fail
          refine Calls.mono H39.out ?_
          rintro e w6 ⟨⟨k2, rfl, hcut⟩, hb6⟩
          have HZ6 := Lib.hid (HZ5.out.below hb6)
          have B6 := Lib.hid (bthen' B5.out B5.out.size hb6)
          have HO6 := Lib.hid (own_below HO5.out hb6)
          have HRD6 := Lib.hid (HRD5.out.below hb6)
          have HK2 := Lib.hid (cut_one hcut (cut_ex htab.out.srt))
          have hk2 : k2 ≤ nl := by rw [HNL.out]; exact hcut.1
          clear hb6 HZ5 B5 HO5 HRD5 H39 hcut
          have hwk2 : IntKind.i64.wrap (k2 : Int) = k2 := wrapk (by omega)
          have hwk21 : IntKind.i64.wrap ((k2 : Int) + 1) = (k2 : Int) + 1 := by rw [IntKind.wrap_i64]; omega
          have hk20 : (0 : Int) ≤ (k2 : Int) := by omega
          have z0 := HZ6.out.1
          by_cases h1 : x.k = 1
          · have t1 : (x.k == 1) = true := by simpa using h1
            cases hh : hitP t (atC x) k2 with
            | true =>
              have E := Lib.hid (runA_no hrun.out HX.out HOK.out (stepA_5 h1 HK2.out hh) HS.out)
              clear hh h1
              go_wp2_with fail
              go_ret3
              exact ⟨ApplyR.err E.out, B6.out⟩
            | false =>
              have ST := Lib.hid (stepA_1 h1 HK2.out hh)
              clear hh h1
              have HN6 := Lib.hid (HZ6.out.new)
              go_wp2_with (refine wpList_loadRA rfl (.tmp 57) rfl rfl HN6.out ?_)
              refine Calls.mono (Insert_ok t x.n w.heap.size nl k2 w6.heap.size (.slice Ab nl cb) _ (HO6.out.alloc _) HNL.out.symm hk2 (heap_at rfl) (row_newA HO6.out (Nat.le_refl _)) (by have := B6.out.size; simp; omega) (by omega)) ?_
              rintro e w7 ⟨v7, rfl, hown7, hgrow7⟩
              have B7 := Lib.hid ((B6.out.alloc B6.out.size _).grown hgrow7 (by have := B6.out.size; simp; omega) (fun j hj => (HO6.out.lt j hj).1))
              have HO7 := Lib.hid (show w7.ownsRow w.heap.size 40 7 v7 (t.take k2 ++ x.n :: t.drop k2).length ((t.take k2 ++ x.n :: t.drop k2).flatMap rcV) by rw [List.length_append, List.length_cons, List.length_take, List.length_drop, ← HNL.out, show min k2 nl + (nl - k2 + 1) = nl + 1 by omega]; exact hown7)
              clear hown7 hgrow7
              go_wp2_with fail
              go_roundw
              case rel => exact ⟨k + 1, t.take k2 ++ x.n :: t.drop k2, by omega, by go_num, Lib.hid (runA_go hrun.out HX.out HOK.out ST.out), Lib.hid (stepA_tab htab.out HG.out HFX.out ST.out), HO7, B7⟩
              case measure => simp [intOf]; omega
          · have t1 : (x.k == 1) = false := by simpa using h1
            cases hh : hitP t (atC x) k2 with
            | false =>
              have E := Lib.hid (runA_no hrun.out HX.out HOK.out (stepA_8 h1 HK2.out hh) HS.out)
              clear hh h1
              have HC : ∀ w2, Below w6.heap.size w6 w2 → w2.cell? ⟨gz, 0, none⟩ = some (.int .i64 x.k) := fun w2 h => bcell h z0
              go_wp2_with fail
              refine Og.walk_lit [[],[0],[1,0],[2,1,0],[2,1,0],[3,4,2,1,0],[5,2,3,4,1,0],[2,1,0],[7,2,1,0],[6,8,2,5,3,4,1,0,7],[2,9,1,0,6,8,5,3,4,7],[10,2,9,1,0,6,8,5,3,4,7]] (fun w2 => Below w6.heap.size w6 w2) (fun w1 w2 => Below w1.heap.size w1 w2) (by kernel_rfl) (by kernel_rfl) (bdrew) ?_
              repeat (first | (refine Og.step_pure (fun _ => Below.refl _ _) ?_; apply Exists.intro; refine And.intro ?_ ?_; focus (intro vs w2 hC hk; have hm := HC w2 hC; revert hk; simp only [Og.KS, Og.K0, Og.Is, List.getD_cons_zero, List.getD_cons_succ, List.getD_nil, List.contains_cons, List.contains_nil, Nat.reduceAdd, Nat.reduceBEq, Bool.or_false, Bool.false_or, Bool.or_true, Bool.true_or, Bool.false_eq_true, false_implies, true_implies, true_and, and_true, forall_const]; intros; go_simp; rfl)))
              intro vs w2 hC hk
              have hm := HC w2 hC
              simp only [Og.KS, Og.K0, Og.Is, List.getD_cons_zero, List.getD_cons_succ, List.getD_nil, List.contains_cons, List.contains_nil, Nat.reduceAdd, Nat.reduceBEq, Bool.or_false, Bool.false_or, Bool.or_true, Bool.true_or, Bool.false_eq_true, false_implies, true_implies, true_and, and_true, forall_const] at hk
              simp only [hk, Act.put, List.setIfInBounds_toArray, List.set_cons_zero, List.set_cons_succ]
              clear hk
              have B7 := Lib.hid (bthen' B6.out B6.out.size hC)
              clear hC HC hm B6 HO6
              go_wp2_with fail
              go_ret3
              exact ⟨ApplyR.err E.out, B7.out⟩
            | true =>
              obtain ⟨r, hxr, hpr⟩ := hit_eq htab.out.srt (p := atC x) (by rw [← HK2.out]; exact hh)
              rw [← HK2.out] at hxr
              have HXR := Lib.hid hxr
              have HHH := Lib.hid hh
              have hklt : k2 < nl := by rw [HNL.out]; exact (List.getElem?_eq_some_iff.1 hxr).1
              have hkli : (k2 : Int) < (nl : Int) := by omega
              obtain ⟨g, cap, hv, hbg, hgl⟩ := own_some HO6.out (fun e => by cases e; omega)
              cases hv
              obtain ⟨b1, o1, hA1, hat⟩ := HRD6.out k2 r hxr
              cases hA1
              rw [Nat.zero_add] at hat
              have HO1 := HZ6.out.old
              have HC : ∀ w2, Below w6.heap.size w6 w2 → w2.cell? ⟨g, k2 * 7, none⟩ = some (.int .u32 r.p.a) ∧ w2.cell? ⟨g, k2 * 7 + 1, none⟩ = some (.int .i64 r.p.l) ∧ w2.cell? ⟨g, k2 * 7 + 2, none⟩ = some (.int .i64 r.m) ∧ w2.cell? ⟨g, k2 * 7 + 3, none⟩ = some (.int .u64 r.o0) ∧ w2.cell? ⟨g, k2 * 7 + 4, none⟩ = some (.int .u64 r.o1) ∧ w2.cell? ⟨g, k2 * 7 + 5, none⟩ = some (.int .u64 r.h0) ∧ w2.cell? ⟨g, k2 * 7 + 6, none⟩ = some (.int .u64 r.h1) ∧ w2.cell? ⟨gz, 1, none⟩ = some (.int .u32 x.o.p.a) ∧ w2.cell? ⟨gz, 2, none⟩ = some (.int .i64 x.o.p.l) ∧ w2.cell? ⟨gz, 3, none⟩ = some (.int .i64 x.o.m) ∧ w2.cell? ⟨gz, 4, none⟩ = some (.int .u64 x.o.o0) ∧ w2.cell? ⟨gz, 5, none⟩ = some (.int .u64 x.o.o1) ∧ w2.cell? ⟨gz, 6, none⟩ = some (.int .u64 x.o.h0) ∧ w2.cell? ⟨gz, 7, none⟩ = some (.int .u64 x.o.h1) := fun w2 h => ⟨bcell h hat.1, bcell h hat.2.1, bcell h hat.2.2.1, bcell h hat.2.2.2.1, bcell h hat.2.2.2.2.1, bcell h hat.2.2.2.2.2.1, bcell h hat.2.2.2.2.2.2, bcell h HO1.1, bcell h HO1.2.1, bcell h HO1.2.2.1, bcell h HO1.2.2.2.1, bcell h HO1.2.2.2.2.1, bcell h HO1.2.2.2.2.2.1, bcell h HO1.2.2.2.2.2.2⟩
              clear hxr hpr hh hat HO1
              by_cases hro : r = x.o
              · have te : eqRb r.p.a r.p.l r.m r.o0 r.o1 r.h0 r.h1 x.o.p.a x.o.p.l x.o.m x.o.o0 x.o.o1 x.o.h0 x.o.h1 = true := (eqRb_of r x.o).trans (decide_eq_true hro)
                have HXO := Lib.hid (show t[k2]? = some x.o by rw [← hro]; exact HXR.out)
                clear hro
                go_wp2_with fail
                refine Og.walk_lit [[],[0],[1,0],[2,1,0],[2,1,0],[3,4,2,1,0],[5,2,3,4,1,0],[2,1,0],[7,2,1,0],[6,8,2,5,3,4,1,0,7],[2,9,1,0,6,8,5,3,4,7],[10,2,9,1,0,6,8,5,3,4,7]] (fun w2 => Below w6.heap.size w6 w2) (fun w1 w2 => Below w1.heap.size w1 w2) (by kernel_rfl) (by kernel_rfl) (bdrew) ?_
                repeat (first | (refine Og.step_pure (fun _ => Below.refl _ _) ?_; apply Exists.intro; refine And.intro ?_ ?_; focus (intro vs w2 hC hk; have hm := HC w2 hC; revert hk; simp only [Og.KS, Og.K0, Og.Is, List.getD_cons_zero, List.getD_cons_succ, List.getD_nil, List.contains_cons, List.contains_nil, Nat.reduceAdd, Nat.reduceBEq, Bool.or_false, Bool.false_or, Bool.or_true, Bool.true_or, Bool.false_eq_true, false_implies, true_implies, true_and, and_true, forall_const]; intros; go_simp; rfl)))
                intro vs w2 hC hk
                have hm := HC w2 hC
                simp only [Og.KS, Og.K0, Og.Is, List.getD_cons_zero, List.getD_cons_succ, List.getD_nil, List.contains_cons, List.contains_nil, Nat.reduceAdd, Nat.reduceBEq, Bool.or_false, Bool.false_or, Bool.or_true, Bool.true_or, Bool.false_eq_true, false_implies, true_implies, true_and, and_true, forall_const] at hk
                simp only [hk, Act.put, List.setIfInBounds_toArray, List.set_cons_zero, List.set_cons_succ]
                clear hk
                have HZ7 := Lib.hid (HZ6.out.below hC)
                have B7 := Lib.hid (bthen' B6.out B6.out.size hC)
                have HO7 := Lib.hid (own_below HO6.out hC)
                clear hC hm HC B6 HO6 HRD6 HXR
                obtain ⟨w7, rfl⟩ : ∃ w7 : World, w7 = w2 := ⟨_, rfl⟩
                have z7 := HZ7.out.1
                clear HZ6 z0
                by_cases h2 : x.k = 2
                · have t2 : (x.k == 2) = true := by simpa using h2
                  have ST := Lib.hid (stepA_2 h1 h2 HK2.out HHH.out HXO.out)
                  clear h1 h2 HHH HXO
                  have H42 : Hid (Calls Try.prog 42 #[.slice (some ⟨g, 0, none⟩) nl cb, .int .i64 (k2 : Int), .int .i64 ((k2 : Int) + 1)] w7 fun e w' => ∃ n, n = (t.eraseIdx k2).length ∧ e = .returned (.slice (some ⟨g, 0, none⟩) n cb) ∧ w'.ownsRow w.heap.size 40 7 (.slice (some ⟨g, 0, none⟩) n cb) n ((t.eraseIdx k2).flatMap rcV) ∧ w7.grownBy w' (some g)) := Lib.hid (by
                    obtain ⟨n, hn⟩ : ∃ n, nl = n + 1 := ⟨nl - 1, by omega⟩
                    have ho := HO7.out
                    rw [hn] at ho ⊢
                    refine (Delete_ok t w.heap.size n k2 g cb w7 ho (by rw [← HNL.out, hn]) (by omega) (by omega)).mono ?_
                    rintro e w8 ⟨rfl, h2, h3⟩
                    exact ⟨n, by rw [List.length_eraseIdx_of_lt (by rw [← HNL.out]; exact hklt), ← HNL.out, hn]; rfl, rfl, h2, h3⟩)
                  go_wp2_with fail
                  refine Calls.mono H42.out ?_
                  rintro e w8 ⟨n8, hn8, rfl, hown8, hgrow8⟩
                  have B8 := Lib.hid (B7.out.grown hgrow8 B7.out.size (fun j hj => by cases hj; exact hbg))
                  have HO8 := Lib.hid (show w8.ownsRow w.heap.size 40 7 (.slice (some ⟨g, 0, none⟩) n8 cb) (t.eraseIdx k2).length ((t.eraseIdx k2).flatMap rcV) by rw [← hn8]; exact hown8)
                  clear hn8 hown8 hgrow8 H42
                  go_wp2_with fail
                  go_roundw
                  case rel => exact ⟨k + 1, t.eraseIdx k2, by omega, by go_num, Lib.hid (runA_go hrun.out HX.out HOK.out ST.out), Lib.hid (stepA_tab htab.out HG.out HFX.out ST.out), HO8, B8⟩
                  case measure => simp [intOf]; omega
                · have t2 : (x.k == 2) = false := by simpa using h2
                  have ST := Lib.hid (stepA_3 h1 h2 HK2.out HHH.out HXO.out)
                  clear h1 h2 HHH HXO
                  have HN7 := Lib.hid (HZ7.out.new)
                  go_wp2_with (first | (refine wpList_loadRA rfl (.tmp 40) rfl rfl HN7.out ?_) | (refine wpList_storeR x.n rfl (.tmp 42) (.tmp 41) rfl rfl HO7.out HNL.out.symm hklt rfl rfl ?_; intro w8 hown8 hs8 ho8 hb8; have B8 := Lib.hid (B7.out.trans (hb8 _ hbg)); have HO8 := Lib.hid (show w8.ownsRow w.heap.size 40 7 (.slice (some ⟨g, 0, none⟩) nl cb) (t.set k2 x.n).length ((t.set k2 x.n).flatMap rcV) by rw [List.length_set, ← HNL.out]; exact hown8); clear hown8 hs8 ho8 hb8))
                  go_roundw
                  case rel => exact ⟨k + 1, t.set k2 x.n, by omega, by go_num, Lib.hid (runA_go hrun.out HX.out HOK.out ST.out), Lib.hid (stepA_tab htab.out HG.out HFX.out ST.out), HO8, B8⟩
                  case measure => simp [intOf]; omega
              · have te : eqRb r.p.a r.p.l r.m r.o0 r.o1 r.h0 r.h1 x.o.p.a x.o.p.l x.o.m x.o.o0 x.o.o1 x.o.h0 x.o.h1 = false := (eqRb_of r x.o).trans (decide_eq_false hro)
                have E := Lib.hid (runA_no hrun.out HX.out HOK.out (stepA_8' h1 HK2.out HXR.out hro) HS.out)
                clear hro h1
                go_wp2_with fail
                refine Og.walk_lit [[],[0],[1,0],[2,1,0],[2,1,0],[3,4,2,1,0],[5,2,3,4,1,0],[2,1,0],[7,2,1,0],[6,8,2,5,3,4,1,0,7],[2,9,1,0,6,8,5,3,4,7],[10,2,9,1,0,6,8,5,3,4,7]] (fun w2 => Below w6.heap.size w6 w2) (fun w1 w2 => Below w1.heap.size w1 w2) (by kernel_rfl) (by kernel_rfl) (bdrew) ?_
                repeat (first | (refine Og.step_pure (fun _ => Below.refl _ _) ?_; apply Exists.intro; refine And.intro ?_ ?_; focus (intro vs w2 hC hk; have hm := HC w2 hC; revert hk; simp only [Og.KS, Og.K0, Og.Is, List.getD_cons_zero, List.getD_cons_succ, List.getD_nil, List.contains_cons, List.contains_nil, Nat.reduceAdd, Nat.reduceBEq, Bool.or_false, Bool.false_or, Bool.or_true, Bool.true_or, Bool.false_eq_true, false_implies, true_implies, true_and, and_true, forall_const]; intros; go_simp; rfl)))
                intro vs w2 hC hk
                have hm := HC w2 hC
                simp only [Og.KS, Og.K0, Og.Is, List.getD_cons_zero, List.getD_cons_succ, List.getD_nil, List.contains_cons, List.contains_nil, Nat.reduceAdd, Nat.reduceBEq, Bool.or_false, Bool.false_or, Bool.or_true, Bool.true_or, Bool.false_eq_true, false_implies, true_implies, true_and, and_true, forall_const] at hk
                simp only [hk, Act.put, List.setIfInBounds_toArray, List.set_cons_zero, List.set_cons_succ]
                clear hk
                have B7 := Lib.hid (bthen' B6.out B6.out.size hC)
                clear hC HC hm B6 HO6
                go_wp2_with fail
                go_ret3
                exact ⟨ApplyR.err E.out, B7.out⟩
      · have hkn : k = nx := by omega
        subst hkn
        have E := Lib.hid (show applyV t0 xs = (t, 0, 0) from runA_end (by rw [← HN.out]; exact hrun.out) HS.out)
        go_wp2_with fail
        go_ret3
        exact ⟨ApplyR.fin E.out hown.out, hbw.out⟩

end Go.Proofs.Ytpnhkniegjfncaa
