/- The reference's Join: what it answers; conditions: the lists fit the memory, the addresses are uint32. -/
import Derived.Test.YtpnhkniegjfncaaD29
namespace Go.Proofs.Ytpnhkniegjfncaa
open Go.ChangeShapes Go.WideShapes Go.ChangeAt Go.RowKit
set_option linter.unusedVariables false
set_option linter.unusedSimpArgs false
attribute [local go_sem] Og.Opt Og.OpY
attribute [local go_sem high] eqB1 eqP1 eqR1 eqC1

theorem head_some {a b : List Ch} {p : Pf} (hp : hdK (a.map atC) (b.map atC) = some p) (ha : headP atC p a = none) (hb : headP atC p b = none) : False := by
  have := drop_lt hp
  have e1 : dropP atC p a = a := by
    cases a with
    | nil => rfl
    | cons x t => simp only [headP] at ha; simp only [dropP]; split at ha <;> simp_all
  have e2 : dropP atC p b = b := by
    cases b with
    | nil => rfl
    | cons x t => simp only [headP] at hb; simp only [dropP]; split at hb <;> simp_all
  rw [e1, e2] at this
  omega
theorem drop_le {α : Type} {k : α → Pf} {p : Pf} {a : List α} : (dropP k p a).length ≤ a.length := by
  cases a with
  | nil => exact Nat.le_refl _
  | cons x t => simp only [dropP]; split <;> simp
theorem drop_hit {α : Type} {k : α → Pf} {p : Pf} {a : List α} {x : α} (h : headP k p a = some x) : (dropP k p a).length + 1 = a.length := by
  cases a with
  | nil => cases h
  | cons y t => simp only [headP] at h; simp only [dropP]; split at h <;> simp_all
theorem below_store {w w3 : World} {ob : Obj} (hb : ∀ B, B ≤ w.heap.size → Below B (w.alloc ob) w3) : Below w.heap.size w w3 := ((Below.refl _ _).alloc (Nat.le_refl _) _).trans (hb _ (Nat.le_refl _))

set_option maxHeartbeats 2000000 in
theorem rJoin_no (xs ys : List Ch) (A A' : Option Addr) (c c' : Nat) (w : World) (hr : RdC w A xs) (hr' : RdC w A' ys) (hl : xs.length ≤ 1172812402926) (hl' : ys.length ≤ 1172812402926) (hf : ∀ (i : Nat) r, xs[i]? = some r → FitC r) (hf' : ∀ (i : Nat) r, ys[i]? = some r → FitC r) (h : (sndC xs && sndC ys) = false) :
    Calls Try.prog 19 #[.slice A xs.length c, .slice A' ys.length c'] w fun e w' => e = .returned (.tuple #[.slice none 0 0, .int .i64 1]) ∧ Below w.heap.size w w' := by
  have HS := Lib.hid (fun (w2 : World) (hb : Below w.heap.size w w2) => SoundTo_ok xs A c w2 (hr.below hb) (by omega) hf)
  have HS' := Lib.hid (fun (w2 : World) (hb : Below w.heap.size w w2) => SoundTo_ok ys A' c' w2 (hr'.below hb) (by omega) hf')
  obtain ⟨nx, hnx⟩ : ∃ n, n = xs.length := ⟨_, rfl⟩
  obtain ⟨ny, hny⟩ : ∃ n, n = ys.length := ⟨_, rfl⟩
  rw [← hnx] at HS ⊢
  rw [← hny] at HS' ⊢
  clear hr hr' hl hl' hf hf' hnx hny
  cases hx : sndC xs with
  | false =>
    rw [hx] at HS
    clear h hx HS'
    go_enter Try.func19, Try.ntmps19
    go_wp2_with fail
    refine Calls.mono (HS.out w (Below.refl _ _)) ?_
    rintro e w1 ⟨rfl, hb1⟩
    have B1 := Lib.hid hb1
    clear hb1
    go_wp2_with fail
    go_ret2
    exact ⟨rfl, B1.out⟩
  | true =>
    rw [hx, Bool.true_and] at h
    rw [hx] at HS
    rw [h] at HS'
    clear h hx
    go_enter Try.func19, Try.ntmps19
    go_wp2_with fail
    refine Calls.mono (HS.out w (Below.refl _ _)) ?_
    rintro e w1 ⟨rfl, hb1⟩
    have B1 := Lib.hid hb1
    clear hb1
    go_wp2_with fail
    refine Calls.mono (HS'.out w1 B1.out) ?_
    rintro e w2 ⟨rfl, hb2⟩
    have B2 := Lib.hid (bthen' B1.out B1.out.size hb2)
    clear hb2
    go_wp2_with fail
    go_ret2
    exact ⟨rfl, B2.out⟩

set_option maxRecDepth 100000 in
set_option maxHeartbeats 8000000 in
theorem rJoin_yes (xs ys : List Ch) (A A' : Option Addr) (c c' : Nat) (w : World) (hr : RdC w A xs) (hr' : RdC w A' ys) (hf : ∀ (i : Nat) r, xs[i]? = some r → FitC r) (hf' : ∀ (i : Nat) r, ys[i]? = some r → FitC r) (hsx : sndC xs = true) (hsy : sndC ys = true) :
    Calls Try.prog 19 #[.slice A xs.length c, .slice A' ys.length c'] w fun e w' => JoinR xs ys w.heap.size e w' ∧ Below w.heap.size w w' := by
  have hl := sndC_len hsx hf
  have hl' := sndC_len hsy hf'
  have HS := Lib.hid (fun (w2 : World) (hb : Below w.heap.size w w2) => SoundTo_ok xs A c w2 (hr.below hb) (by omega) hf)
  have HS' := Lib.hid (fun (w2 : World) (hb : Below w.heap.size w w2) => SoundTo_ok ys A' c' w2 (hr'.below hb) (by omega) hf')
  have FX := Lib.hid (fun (p : Pf) (w2 : World) (hb : Below w.heap.size w w2) => of_ok xs p A c w2 (hr.below hb) (by omega))
  have FY := Lib.hid (fun (p : Pf) (w2 : World) (hb : Below w.heap.size w w2) => of_ok ys p A' c' w2 (hr'.below hb) (by omega))
  have SX := Lib.hid (And.intro (sndC_srt hsx) (sndC_srt hsy))
  have SS := Lib.hid (show (sndC xs && sndC ys) = true by rw [hsx, hsy]; rfl)
  rw [hsx] at HS
  rw [hsy] at HS'
  clear hsx hsy hf hf'
  obtain ⟨nx, hnx⟩ : ∃ n, n = xs.length := ⟨_, rfl⟩
  obtain ⟨ny, hny⟩ : ∃ n, n = ys.length := ⟨_, rfl⟩
  rw [← hnx] at HS FX hl ⊢
  rw [← hny] at HS' FY hl' ⊢
  have HN := Lib.hid hnx
  have HN' := Lib.hid hny
  have HR := Lib.hid hr
  have HR' := Lib.hid hr'
  clear hr hr' hnx hny
  obtain ⟨i0, hi, hz0, hz1, hz2⟩ := info_parts info35
  go_enter Try.func19, Try.ntmps19
  go_wp2_with fail
  refine Calls.mono (HS.out w (Below.refl _ _)) ?_
  rintro e w1 ⟨rfl, hb1⟩
  have B1 := Lib.hid hb1
  clear hb1 HS
  go_wp2_with fail
  refine Calls.mono (HS'.out w1 B1.out) ?_
  rintro e w2 ⟨rfl, hb2⟩
  have B2 := Lib.hid (bthen' B1.out B1.out.size hb2)
  clear hb2 HS' B1
  go_wp2_with fail
  go_loopw [6, 7] (fun s i wr => ∃ k : Nat, k ≤ nx ∧ i = .int .i64 k ∧ Hid (wr.ownsRow w.heap.size 35 2 s k (((xs.take k).map atC).flatMap ppV)) ∧ Hid (Below w.heap.size w wr)) (fun _ i _ => nx - (intOf i).toNat)
  case atStart => exact ⟨0, Nat.zero_le _, rfl, Lib.hid (by simpa using fresh_row w2 35 2 w.heap.size B2.out.size), Lib.hid (B2.out.alloc B2.out.size _)⟩
  case round =>
    obtain ⟨k, hk, rfl, hown, hbw⟩ := hrel
    by_cases hlt : k < nx
    · obtain ⟨r, hx⟩ : ∃ r, xs[k]? = some r := ⟨_, List.getElem?_eq_getElem (by rw [← HN.out]; exact hlt)⟩
      obtain ⟨b, o, rfl, ha⟩ := (HR.out.below hbw.out) k r hx
      have HT := Lib.hid (take_map_succ' (f := atC) hx)
      have HA := Lib.hid ha
      have hwk : IntKind.i64.wrap (k : Int) = k := wrapk (by omega)
      have hk0 : (0 : Int) ≤ (k : Int) := by omega
      have hkn : (k : Int) < (nx : Int) := by omega
      clear hx ha
      go_wp2_with (refine wpList_loadC rfl (.tmp 38) rfl rfl HA.out ?_)
      refine Calls.mono (rAt_ok r wr) ?_
      rintro e wa ⟨rfl, hba⟩
      have BA := Lib.hid (bthen' hbw.out hbw.out.size hba)
      have HO := Lib.hid (own_below hown.out hba)
      clear hba hown hbw HA
      go_wp2_with (at_builtin; refine wpList_append_own _ rfl (.tmp 35) (.tmp 41) 57 rfl w.heap.size 35 i0 _ 2 16 Try.underlying57 hi hz0 hz1 hz2 rfl (by decide) _ k _ rfl (HO.out.alloc _) ⟨wa.heap.size, 0, none⟩ 1 1 (ppV (atC r)) rfl rfl (news_block rfl) (ppV_one _) (by unfold maxLen; omega) (by omega) (by have := BA.out.size; simp; omega) ?_; intro v1 w1 hown1 hgrow1 hnil1)
      go_roundw
      case rel => exact ⟨k + 1, by omega, by go_num, Lib.hid (by rw [HT.out, List.flatMap_append]; simpa using hown1), Lib.hid ((BA.out.alloc BA.out.size _).grown hgrow1 (by have := BA.out.size; simp; omega) (fun j hj => (HO.out.lt j hj).1))⟩
      case measure => simp [intOf]; omega
    · have hkn : k = nx := by omega
      subst hkn
      have R1 : Hid (wr.ownsRow w.heap.size 35 2 u6 (k + 0) ((xs.map atC ++ (ys.take 0).map atC).flatMap ppV)) := Lib.hid (by
        have := hown.out
        rw [show xs.take k = xs by rw [HN.out, List.take_length]] at this
        simpa using this)
      obtain ⟨wo, rfl⟩ : ∃ wo : World, wo = wr := ⟨_, rfl⟩
      have B3 := hbw
      obtain ⟨nx, rfl⟩ : ∃ nx : Nat, nx = k := ⟨_, rfl⟩
      clear hown hbw hk hlt B2
      go_wp2_with fail
      go_loopw [6, 8] (fun s i wr => ∃ k : Nat, k ≤ ny ∧ i = .int .i64 k ∧ Hid (wr.ownsRow w.heap.size 35 2 s (nx + k) ((xs.map atC ++ (ys.take k).map atC).flatMap ppV)) ∧ Hid (Below w.heap.size w wr)) (fun _ i _ => ny - (intOf i).toNat)
      case atStart => exact ⟨0, Nat.zero_le _, rfl, R1, B3⟩
      case round =>
        clear R1 B3
        obtain ⟨k, hk, rfl, hown, hbw⟩ := hrel
        by_cases hlt : k < ny
        · obtain ⟨r, hx⟩ : ∃ r, ys[k]? = some r := ⟨_, List.getElem?_eq_getElem (by rw [← HN'.out]; exact hlt)⟩
          obtain ⟨b, o, rfl, ha⟩ := (HR'.out.below hbw.out) k r hx
          have HT := Lib.hid (take_map_succ' (f := atC) hx)
          have HA := Lib.hid ha
          have hwk : IntKind.i64.wrap (k : Int) = k := wrapk (by omega)
          have hk0 : (0 : Int) ≤ (k : Int) := by omega
          have hkn : (k : Int) < (ny : Int) := by omega
          clear hx ha
          go_wp2_with (refine wpList_loadC rfl (.tmp 52) rfl rfl HA.out ?_)
          refine Calls.mono (rAt_ok r wr) ?_
          rintro e wa ⟨rfl, hba⟩
          have BA := Lib.hid (bthen' hbw.out hbw.out.size hba)
          have HO := Lib.hid (own_below hown.out hba)
          clear hba hown hbw HA
          go_wp2_with (at_builtin; refine wpList_append_own _ rfl (.tmp 49) (.tmp 55) 57 rfl w.heap.size 35 i0 _ 2 16 Try.underlying57 hi hz0 hz1 hz2 rfl (by decide) _ (nx + k) _ rfl (HO.out.alloc _) ⟨wa.heap.size, 0, none⟩ 1 1 (ppV (atC r)) rfl rfl (news_block rfl) (ppV_one _) (by unfold maxLen; omega) (by omega) (by have := BA.out.size; simp; omega) ?_; intro v1 w1 hown1 hgrow1 hnil1)
          go_roundw
          case rel => exact ⟨k + 1, by omega, by go_num, Lib.hid (by rw [HT.out, ← List.append_assoc, List.flatMap_append]; simpa [Nat.add_assoc] using hown1), Lib.hid ((BA.out.alloc BA.out.size _).grown hgrow1 (by have := BA.out.size; simp; omega) (fun j hj => (HO.out.lt j hj).1))⟩
          case measure => simp [intOf]; omega
        · have hkn : k = ny := by omega
          subst hkn
          obtain ⟨ps, hps⟩ : ∃ ps, ps = xs.map atC ++ ys.map atC := ⟨_, rfl⟩
          have HP := Lib.hid hps
          have hpl : ps.length = nx + k := by rw [hps, List.length_append, List.length_map, List.length_map, ← HN.out, ← HN'.out]
          have RP : Hid (wr.ownsRow w.heap.size 35 2 u6 ps.length (ps.flatMap ppV)) := Lib.hid (by
            have := hown.out
            rw [show ys.take k = ys by rw [HN'.out, List.take_length], ← HP.out] at this
            rw [hpl]; exact this)
          have hpl' : ps.length ≤ 1125899906842624 := by omega
          have HPL := Lib.hid hpl'
          have LXY := Lib.hid (show xs.length + ys.length ≤ 283467841536 by rw [← HN.out, ← HN'.out]; omega)
          obtain ⟨wo, rfl⟩ : ∃ wo : World, wo = wr := ⟨_, rfl⟩
          have B4 := hbw
          have N1 := Lib.hid (show nxtP ps ⟨0, 0⟩ true = hdK (xs.map atC) (ys.map atC) by rw [HP.out]; exact first_hd SX.out.1 SX.out.2)
          clear hps hpl hpl' hown hbw hk hlt
          go_wp2_with fail
          have RP1 : Hid ((wo.alloc (.cells #[] 42)).ownsRow w.heap.size 35 2 u6 ps.length (ps.flatMap ppV)) := Lib.hid (RP.out.alloc _)
          refine Calls.mono (next_row ps ⟨0, 0⟩ true u6 w.heap.size _ RP1.out HPL.out _ N1.out) ?_
          rintro e w3 ⟨rfl, hb3⟩
          have RP2 := Lib.hid (own_below RP1.out hb3)
          have RO := Lib.hid (own_below (fresh_row wo 42 15 w.heap.size B4.out.size) hb3)
          have B5 := Lib.hid (bthen' (B4.out.alloc B4.out.size (.cells #[] 42)) (by have := B4.out.size; simp; omega) hb3)
          clear RP RP1 N1 B4 hb3
          go_wp2_with fail
          have HUB : Hid (∀ k, u6.ownBlock = some k → k < w3.heap.size) := Lib.hid (fun k hk => (RP2.out.lt k hk).2)
          have HBX := Lib.hid B5.out.size
          go_loopg [9, 11] (xs.length + ys.length) (fun gk s okv wr => ∃ (pre : List Ch) (a b : List Ch) (hd : Option Pf), gk = a.length + b.length ∧ okv = .bool hd.isSome ∧ Hid (hdK (a.map atC) (b.map atC) = hd) ∧ Hid ((jn a b).map (pre ++ ·) = jn xs ys) ∧ Hid (Stand atC atC xs ys a b) ∧ Hid (wr.ownsRow w.heap.size 42 15 s pre.length (pre.flatMap ccV)) ∧ Hid (wr.ownsRow w.heap.size 35 2 u6 ps.length (ps.flatMap ppV)) ∧ Hid (wr.heap[w3.heap.size]? = some (.cells #[.int .u32 (bst hd).a, .int .i64 (bst hd).l] 35 (0, 0))) ∧ Hid (Below w.heap.size w wr) ∧ Hid (pre.length + a.length + b.length ≤ 283467841536))
          case atStart =>
            refine ⟨[], xs, ys, _, rfl, rfl, Lib.hid rfl, Lib.hid (by simp), Lib.hid (Stand.start SX.out.1 SX.out.2), Lib.hid ?_, Lib.hid (RP2.out.alloc _), Lib.hid (heap_at rfl), Lib.hid (B5.out.alloc B5.out.size _), Lib.hid (by have := LXY.out; simp; omega)⟩
            exact RO.out.alloc _
          case round =>
            clear RO RP2 B5 LXY
            obtain ⟨pre, a, b, hd, rfl, rfl, hh, hj, hst, hown, hrow, hbox, hbw, hlen⟩ := hrel
            obtain ⟨B0, hB0⟩ : ∃ B0, B0 = w3.heap.size := ⟨_, rfl⟩
            rw [← hB0] at hbox HUB HBX ⊢
            cases hd with
            | none =>
              have hab : jn xs ys = some pre := by
                obtain ⟨h1, h2⟩ := hdK_none hh.out
                rw [List.map_eq_nil_iff] at h1 h2
                subst h1 h2
                have := hj.out
                rw [jn_nil] at this
                rw [← this]; simp
              have HAB := Lib.hid hab
              clear hab hB0
              go_wp2_with fail
              go_ret2
              exact ⟨.inr (.inr ⟨SS.out, pre, _, HAB.out, rfl, SlC_of_row hown.out rfl⟩), hbw.out⟩
            | some p =>
              simp only [bst, Option.getD_some] at hbox
              obtain ⟨oa, hoa⟩ : ∃ o, o = headP atC p a := ⟨_, rfl⟩
              obtain ⟨ob, hob⟩ : ∃ o, o = headP atC p b := ⟨_, rfl⟩
              have F1 : Hid (∀ w2, Below wr.heap.size wr w2 → Calls Try.prog 38 #[.slice A nx c, .agg #[.int .u32 p.a, .int .i64 p.l]] w2 fun e w' => e = .returned (.tuple #[vC (ofV oa), .bool oa.isSome]) ∧ Below w2.heap.size w2 w') := Lib.hid (fun w2 hb => by
                have := FX.out p w2 (bthen' hbw.out hbw.out.size hb)
                rwa [show ofC xs p = oa by unfold ofC; rw [hst.out.finda hh.out, hoa]] at this)
              have F2 : Hid (∀ w2, Below wr.heap.size wr w2 → Calls Try.prog 38 #[.slice A' k c', .agg #[.int .u32 p.a, .int .i64 p.l]] w2 fun e w' => e = .returned (.tuple #[vC (ofV ob), .bool ob.isSome]) ∧ Below w2.heap.size w2 w') := Lib.hid (fun w2 hb => by
                have := FY.out p w2 (bthen' hbw.out hbw.out.size hb)
                rwa [show ofC ys p = ob by unfold ofC; rw [hst.out.findb hh.out, hob]] at this)
              have hstep := jn_step hh.out
              rw [← hoa, ← hob] at hstep
              have HJ := Lib.hid (show ((jn1 oa ob).bind fun l => (jn (dropP atC p a) (dropP atC p b)).map (l ++ ·)).map (pre ++ ·) = jn xs ys by rw [← hstep]; exact hj.out)
              have N2 := Lib.hid (show nxtP ps p false = hdK ((dropP atC p a).map atC) ((dropP atC p b).map atC) by rw [HP.out]; exact hst.out.next hh.out)
              have HST := Lib.hid (hst.out.step hh.out)
              have HM := Lib.hid (drop_lt hh.out)
              have HNN := Lib.hid (fun (h1 : oa = none) (h2 : ob = none) => head_some hh.out (hoa.symm.trans h1) (hob.symm.trans h2))
              have HD1 := Lib.hid (fun x (h : oa = some x) => drop_hit (hoa.symm.trans h))
              have HD2 := Lib.hid (fun x (h : ob = some x) => drop_hit (hob.symm.trans h))
              have HDL := Lib.hid (And.intro (drop_le (k := atC) (p := p) (a := a)) (drop_le (k := atC) (p := p) (a := b)))
              have HB0 := Lib.hid hB0
              obtain ⟨q0, q1⟩ := cells2 hbox.out
              clear hstep hoa hob hB0 hh hj hst FX FY
              go_wp2_with fail
              refine Calls.mono (F1.out wr (Below.refl _ _)) ?_
              rintro e w2 ⟨rfl, hb2⟩
              have BA := Lib.hid hb2
              have hx2 := cells2 (heap_keep hb2 hbox.out)
              clear hb2 q0 q1 F1
              go_wp2_with (refine wpList_storeC (x := ofV oa) rfl (.tmp 12) (.tmp 69) rfl rfl w2.heap.size rfl rfl _ (heap_at rfl) rfl ?_; intro w4 hz4 hb4 hk4 hs4; have ZA := Lib.hid hz4; have BA4 := Lib.hid (bthen BA.out (below_store hb4)); have hx4 := cells2 (heap_keep BA4.out hbox.out); clear hz4 hb4 hk4 hs4 hx2)
              refine Calls.mono (F2.out w4 BA4.out) ?_
              rintro e w5 ⟨rfl, hb5⟩
              have BA5 := Lib.hid (bthen BA4.out hb5)
              have ZA5 := Lib.hid (heap_keep hb5 ZA.out)
              clear hb5 F2 ZA BA4 BA hx4
              cases oa with
              | none =>
                cases ob with
                | none => exact (HNN.out rfl rfl).elim
                | some y =>
                  go_wp2_with (first | (refine wpList_storeC (x := plC y) rfl (.tmp 14) (.tmp 75) rfl rfl w5.heap.size rfl rfl _ (heap_at rfl) rfl ?_; intro w6 hz6 hb6 hk6 hs6; have ZB := Lib.hid hz6; have BA6 := Lib.hid (bthen BA5.out (below_store hb6)); have ZA6 := Lib.hid (heap_keep (below_store hb6) ZA5.out); have B7 := Lib.hid (bthen' hbw.out hbw.out.size BA6.out); have HO7 := Lib.hid (own_below hown.out BA6.out); have HR7 := Lib.hid (own_below hrow.out BA6.out); have HX7 := Lib.hid (heap_keep BA6.out hbox.out); clear hz6 hb6 hk6 hs6) | (refine wpList_loadX (x := plC y) rfl (.tmp 14) rfl rfl (AtC_cells ZB.out) ?_) | (at_builtin; refine wpList_appC rfl (.tmp 98) (.tmp 100) rfl (base := w.heap.size) (B := 0) (v := u9) (xs := pre) (ys := [plC y]) rfl rfl (HO7.out.alloc _) (SlC_one (c := plC y) (heap_at rfl) (Nat.zero_le _)) (by have := hlen.out; simp; omega) (by have := B7.out.size; simp; omega) ?_; intro v1 w9 hown9 hgrow9; have HO9 := Lib.hid hown9; have B9 := Lib.hid ((B7.out.alloc B7.out.size _).grown hgrow9 (by have := B7.out.size; simp; omega) (fun j hj => (HO7.out.lt j hj).1)); have HX9 := Lib.hid (keep_box (heap_keep ((Below.refl _ _).alloc (Nat.le_refl _) _) HX7.out) hgrow9 (row_ne HO7.out HX7.out (by decide))); have HR9 := Lib.hid ((HR7.out.alloc _).kept hgrow9 (row_rows HO7.out HR7.out (by decide))); have hx9 := cells2 HX9.out; clear hown9 hgrow9))
                  refine Calls.mono (next_row ps p false u6 w.heap.size w9 HR9.out HPL.out _ N2.out) ?_
                  rintro e wA ⟨rfl, hbA⟩
                  have HB4 := Lib.hid (bthen' B9.out B9.out.size hbA)
                  have HX4 := Lib.hid (heap_keep hbA HX9.out)
                  have HO4 := Lib.hid (own_below HO9.out hbA)
                  have HR4 := Lib.hid (own_below HR9.out hbA)
                  clear hbA B9 HX9 HO9 HR9 hx9
                  go_wp2_with (refine wpList_store_new rfl 35 (.tmp 10) (.tmp 106) rfl rfl (B0) _ rfl rfl 35 _ (HX4.out) info35s rfl (by simp [Value.oneCell']) ?_; intro wB hz5 hb5 hk5 hs5; have HX5 := Lib.hid hz5; have HB5 := Lib.hid (HB4.out.trans (hb5 w.heap.size HBX.out)); have HO5 := Lib.hid (HO4.out.kept (grown_of hk5 hs5 (hb5 0 (Nat.zero_le _)) : wA.grownBy wB (some B0)) (.inr (fun e => row_ne HO4.out HX4.out (by decide) e.symm))); have HR5 := Lib.hid (HR4.out.kept (grown_of hk5 hs5 (hb5 0 (Nat.zero_le _)) : wA.grownBy wB (some B0)) (.inr (fun e => Nat.lt_irrefl _ (HUB.out B0 e)))))
                  obtain rfl := HB0.out
                  go_roundg ((dropP atC p a).length + (dropP atC p b).length)
                  case measure => exact HM.out
                  case rel => exact ⟨pre ++ [plC y], _, _, _, rfl, rfl, Lib.hid rfl, Lib.hid (by have := HJ.out; simp only [jn1, Option.bind_some] at this; rwa [jn_move] at this), HST, HO5, HR5, HX5, HB5, Lib.hid (by have h1 := hlen.out; have h2 := HD2.out y rfl; have h3 := HDL.out.1; simp only [List.length_append, List.length_cons, List.length_nil]; omega)⟩
              | some x =>
                cases ob with
                | none =>
                  go_wp2_with (first | (refine wpList_storeC (x := zC) rfl (.tmp 14) (.tmp 75) rfl rfl w5.heap.size rfl rfl _ (heap_at rfl) rfl ?_; intro w6 hz6 hb6 hk6 hs6; have ZB := Lib.hid hz6; have BA6 := Lib.hid (bthen BA5.out (below_store hb6)); have ZA6 := Lib.hid (heap_keep (below_store hb6) ZA5.out); have B7 := Lib.hid (bthen' hbw.out hbw.out.size BA6.out); have HO7 := Lib.hid (own_below hown.out BA6.out); have HR7 := Lib.hid (own_below hrow.out BA6.out); have HX7 := Lib.hid (heap_keep BA6.out hbox.out); clear hz6 hb6 hk6 hs6) | (refine wpList_loadX (x := plC x) rfl (.tmp 12) rfl rfl (AtC_cells ZA6.out) ?_) | (at_builtin; refine wpList_appC rfl (.tmp 94) (.tmp 96) rfl (base := w.heap.size) (B := 0) (v := u9) (xs := pre) (ys := [plC x]) rfl rfl (HO7.out.alloc _) (SlC_one (c := plC x) (heap_at rfl) (Nat.zero_le _)) (by have := hlen.out; simp; omega) (by have := B7.out.size; simp; omega) ?_; intro v1 w9 hown9 hgrow9; have HO9 := Lib.hid hown9; have B9 := Lib.hid ((B7.out.alloc B7.out.size _).grown hgrow9 (by have := B7.out.size; simp; omega) (fun j hj => (HO7.out.lt j hj).1)); have HX9 := Lib.hid (keep_box (heap_keep ((Below.refl _ _).alloc (Nat.le_refl _) _) HX7.out) hgrow9 (row_ne HO7.out HX7.out (by decide))); have HR9 := Lib.hid ((HR7.out.alloc _).kept hgrow9 (row_rows HO7.out HR7.out (by decide))); have hx9 := cells2 HX9.out; clear hown9 hgrow9))
                  refine Calls.mono (next_row ps p false u6 w.heap.size w9 HR9.out HPL.out _ N2.out) ?_
                  rintro e wA ⟨rfl, hbA⟩
                  have HB4 := Lib.hid (bthen' B9.out B9.out.size hbA)
                  have HX4 := Lib.hid (heap_keep hbA HX9.out)
                  have HO4 := Lib.hid (own_below HO9.out hbA)
                  have HR4 := Lib.hid (own_below HR9.out hbA)
                  clear hbA B9 HX9 HO9 HR9 hx9
                  go_wp2_with (refine wpList_store_new rfl 35 (.tmp 10) (.tmp 106) rfl rfl (B0) _ rfl rfl 35 _ (HX4.out) info35s rfl (by simp [Value.oneCell']) ?_; intro wB hz5 hb5 hk5 hs5; have HX5 := Lib.hid hz5; have HB5 := Lib.hid (HB4.out.trans (hb5 w.heap.size HBX.out)); have HO5 := Lib.hid (HO4.out.kept (grown_of hk5 hs5 (hb5 0 (Nat.zero_le _)) : wA.grownBy wB (some B0)) (.inr (fun e => row_ne HO4.out HX4.out (by decide) e.symm))); have HR5 := Lib.hid (HR4.out.kept (grown_of hk5 hs5 (hb5 0 (Nat.zero_le _)) : wA.grownBy wB (some B0)) (.inr (fun e => Nat.lt_irrefl _ (HUB.out B0 e)))))
                  obtain rfl := HB0.out
                  go_roundg ((dropP atC p a).length + (dropP atC p b).length)
                  case measure => exact HM.out
                  case rel => exact ⟨pre ++ [plC x], _, _, _, rfl, rfl, Lib.hid rfl, Lib.hid (by have := HJ.out; simp only [jn1, Option.bind_some] at this; rwa [jn_move] at this), HST, HO5, HR5, HX5, HB5, Lib.hid (by have h1 := hlen.out; have h2 := HD1.out x rfl; have h3 := HDL.out.2; simp only [List.length_append, List.length_cons, List.length_nil]; omega)⟩
                | some y =>
                  by_cases hq : (plC x).n = (plC y).o
                  · have te : eqRb (plC x).n.p.a (plC x).n.p.l (plC x).n.m (plC x).n.o0 (plC x).n.o1 (plC x).n.h0 (plC x).n.h1 (plC y).o.p.a (plC y).o.p.l (plC y).o.m (plC y).o.o0 (plC y).o.o1 (plC y).o.h0 (plC y).o.h1 = true := by rw [eqRb_of]; simpa using hq
                    have HQ := Lib.hid hq
                    clear hq
                    go_wp2_with (refine wpList_storeC (x := plC y) rfl (.tmp 14) (.tmp 75) rfl rfl w5.heap.size rfl rfl _ (heap_at rfl) rfl ?_; intro w6 hz6 hb6 hk6 hs6; have ZB := Lib.hid hz6; have BA6 := Lib.hid (bthen BA5.out (below_store hb6)); have ZA6 := Lib.hid (heap_keep (below_store hb6) ZA5.out); have B7 := Lib.hid (bthen' hbw.out hbw.out.size BA6.out); have HO7 := Lib.hid (own_below hown.out BA6.out); have HR7 := Lib.hid (own_below hrow.out BA6.out); have HX7 := Lib.hid (heap_keep BA6.out hbox.out); have m8 := cells15 (show w6.heap[w2.heap.size]? = some (.cells #[.int .i64 (plC x).k, .int .u32 (plC x).o.p.a, .int .i64 (plC x).o.p.l, .int .i64 (plC x).o.m, .int .u64 (plC x).o.o0, .int .u64 (plC x).o.o1, .int .u64 (plC x).o.h0, .int .u64 (plC x).o.h1, .int .u32 (plC x).n.p.a, .int .i64 (plC x).n.p.l, .int .i64 (plC x).n.m, .int .u64 (plC x).n.o0, .int .u64 (plC x).n.o1, .int .u64 (plC x).n.h0, .int .u64 (plC x).n.h1] 42 (0, 0)) from ZA6.out); have m9 := cells15 (show w6.heap[w5.heap.size]? = some (.cells #[.int .i64 (plC y).k, .int .u32 (plC y).o.p.a, .int .i64 (plC y).o.p.l, .int .i64 (plC y).o.m, .int .u64 (plC y).o.o0, .int .u64 (plC y).o.o1, .int .u64 (plC y).o.h0, .int .u64 (plC y).o.h1, .int .u32 (plC y).n.p.a, .int .i64 (plC y).n.p.l, .int .i64 (plC y).n.m, .int .u64 (plC y).n.o0, .int .u64 (plC y).n.o1, .int .u64 (plC y).n.h0, .int .u64 (plC y).n.h1] 42 (0, 0)) from hz6); clear hz6 hb6 hk6 hs6)
                    refine Calls.mono (change_ok (plC x).o (plC y).n w6) ?_
                    rintro e w7 ⟨⟨v7, rfl, hs7⟩, hb7⟩
                    have S7 := Lib.hid hs7
                    have B8 := Lib.hid (bthen' B7.out B7.out.size hb7)
                    have HO8 := Lib.hid (own_below HO7.out hb7)
                    have HR8 := Lib.hid (own_below HR7.out hb7)
                    have HX8 := Lib.hid (heap_keep hb7 HX7.out)
                    clear hs7 hb7 m8 m9 B7 HO7 HR7 HX7
                    go_wp2_with (at_builtin; refine wpList_appC rfl (.tmp 86) (.tmp 91) rfl (base := w.heap.size) (v := u9) (u := v7) (xs := pre) (ys := chgL (plC x).o (plC y).n) rfl rfl HO8.out S7.out (by have h1 := hlen.out; have h4 := chgL_len (plC x).o (plC y).n; omega) B8.out.size ?_; intro v1 w9 hown9 hgrow9; have HO9 := Lib.hid hown9; have B9 := Lib.hid (B8.out.grown hgrow9 B8.out.size (fun j hj => (HO8.out.lt j hj).1)); have HX9 := Lib.hid (keep_box HX8.out hgrow9 (row_ne HO8.out HX8.out (by decide))); have HR9 := Lib.hid (HR8.out.kept hgrow9 (row_rows HO8.out HR8.out (by decide))); have hx9 := cells2 HX9.out; clear hown9 hgrow9)
                    refine Calls.mono (next_row ps p false u6 w.heap.size w9 HR9.out HPL.out _ N2.out) ?_
                    rintro e wA ⟨rfl, hbA⟩
                    have HB4 := Lib.hid (bthen' B9.out B9.out.size hbA)
                    have HX4 := Lib.hid (heap_keep hbA HX9.out)
                    have HO4 := Lib.hid (own_below HO9.out hbA)
                    have HR4 := Lib.hid (own_below HR9.out hbA)
                    clear hbA B9 HX9 HO9 HR9 hx9
                    go_wp2_with (refine wpList_store_new rfl 35 (.tmp 10) (.tmp 106) rfl rfl (B0) _ rfl rfl 35 _ (HX4.out) info35s rfl (by simp [Value.oneCell']) ?_; intro wB hz5 hb5 hk5 hs5; have HX5 := Lib.hid hz5; have HB5 := Lib.hid (HB4.out.trans (hb5 w.heap.size HBX.out)); have HO5 := Lib.hid (HO4.out.kept (grown_of hk5 hs5 (hb5 0 (Nat.zero_le _)) : wA.grownBy wB (some B0)) (.inr (fun e => row_ne HO4.out HX4.out (by decide) e.symm))); have HR5 := Lib.hid (HR4.out.kept (grown_of hk5 hs5 (hb5 0 (Nat.zero_le _)) : wA.grownBy wB (some B0)) (.inr (fun e => Nat.lt_irrefl _ (HUB.out B0 e)))))
                    obtain rfl := HB0.out
                    go_roundg ((dropP atC p a).length + (dropP atC p b).length)
                    case measure => exact HM.out
                    case rel => exact ⟨pre ++ chgL (plC x).o (plC y).n, _, _, _, rfl, rfl, Lib.hid rfl, Lib.hid (by have := HJ.out; simp only [jn1, if_pos HQ.out, Option.bind_some] at this; rwa [jn_move] at this), HST, HO5, HR5, HX5, HB5, Lib.hid (by have h1 := hlen.out; have h2 := HD1.out x rfl; have h3 := HD2.out y rfl; have h4 := chgL_len (plC x).o (plC y).n; simp only [List.length_append]; omega)⟩
                  · have te : eqRb (plC x).n.p.a (plC x).n.p.l (plC x).n.m (plC x).n.o0 (plC x).n.o1 (plC x).n.h0 (plC x).n.h1 (plC y).o.p.a (plC y).o.p.l (plC y).o.m (plC y).o.o0 (plC y).o.o1 (plC y).o.h0 (plC y).o.h1 = false := by rw [eqRb_of]; simpa using hq
                    have HE := Lib.hid (show jn xs ys = none by have := HJ.out; simp only [jn1, if_neg hq] at this; exact this.symm)
                    clear hq
                    go_wp2_with (refine wpList_storeC (x := plC y) rfl (.tmp 14) (.tmp 75) rfl rfl w5.heap.size rfl rfl _ (heap_at rfl) rfl ?_; intro w6 hz6 hb6 hk6 hs6; have ZB := Lib.hid hz6; have BA6 := Lib.hid (bthen BA5.out (below_store hb6)); have ZA6 := Lib.hid (heap_keep (below_store hb6) ZA5.out); have B7 := Lib.hid (bthen' hbw.out hbw.out.size BA6.out); have HO7 := Lib.hid (own_below hown.out BA6.out); have HR7 := Lib.hid (own_below hrow.out BA6.out); have HX7 := Lib.hid (heap_keep BA6.out hbox.out); have m8 := cells15 (show w6.heap[w2.heap.size]? = some (.cells #[.int .i64 (plC x).k, .int .u32 (plC x).o.p.a, .int .i64 (plC x).o.p.l, .int .i64 (plC x).o.m, .int .u64 (plC x).o.o0, .int .u64 (plC x).o.o1, .int .u64 (plC x).o.h0, .int .u64 (plC x).o.h1, .int .u32 (plC x).n.p.a, .int .i64 (plC x).n.p.l, .int .i64 (plC x).n.m, .int .u64 (plC x).n.o0, .int .u64 (plC x).n.o1, .int .u64 (plC x).n.h0, .int .u64 (plC x).n.h1] 42 (0, 0)) from ZA6.out); have m9 := cells15 (show w6.heap[w5.heap.size]? = some (.cells #[.int .i64 (plC y).k, .int .u32 (plC y).o.p.a, .int .i64 (plC y).o.p.l, .int .i64 (plC y).o.m, .int .u64 (plC y).o.o0, .int .u64 (plC y).o.o1, .int .u64 (plC y).o.h0, .int .u64 (plC y).o.h1, .int .u32 (plC y).n.p.a, .int .i64 (plC y).n.p.l, .int .i64 (plC y).n.m, .int .u64 (plC y).n.o0, .int .u64 (plC y).n.o1, .int .u64 (plC y).n.h0, .int .u64 (plC y).n.h1] 42 (0, 0)) from hz6); clear hz6 hb6 hk6 hs6)
                    go_ret2
                    exact ⟨.inr (.inl ⟨SS.out, HE.out, rfl⟩), B7.out⟩

end Go.Proofs.Ytpnhkniegjfncaa
