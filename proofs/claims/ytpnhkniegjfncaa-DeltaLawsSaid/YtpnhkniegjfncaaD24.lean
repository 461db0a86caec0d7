/- The reference's All: the changes between two sound tables; conditions: the tables fit the memory. -/
import Derived.Test.YtpnhkniegjfncaaD23
import Derived.Test.YtpnhkniegjfncaaD21
import Derived.Test.YtpnhkniegjfncaaOg2
import Derived.Test.YtpnhkniegjfncaaD15
import Derived.Deep.LoopGhost
namespace Go.Proofs.Ytpnhkniegjfncaa
open Go.ChangeShapes Go.WideShapes Go.ChangeAt Go.RowKit
set_option linter.unusedVariables false
set_option linter.unusedSimpArgs false
attribute [local go_sem] Og.Opt Og.OpY
attribute [local go_sem high] eqB1 eqP1 eqR1 eqC1

theorem run_appC {w : World} {base B : Nat} {v u : Value} {xs ys : List Ch} (ty : TypeId) (hown : w.ownsRow base 42 15 v xs.length (xs.flatMap ccV)) (hu : SlC B w u ys) (hl : xs.length + ys.length ≤ 1172812402926) (hbase : base ≤ w.heap.size) :
    ∃ v' w', (Builtin.append_ #[29, 29] ty #[v, u]).run Try.prog w = .ok v' w' ∧ w'.ownsRow base 42 15 v' (xs ++ ys).length ((xs ++ ys).flatMap ccV) ∧ w.grownBy w' v.ownBlock := by
  obtain ⟨i, hi, hz, hsz, hby⟩ := info_parts info42
  obtain ⟨A, c, rfl, hr, hA0, _, _⟩ := hu
  cases A with
  | some ad =>
    obtain ⟨v', w', h1, h2, h3, _⟩ := run_append_own (P := Try.prog) w base 29 ty 42 i _ 15 120 Try.underlying29 hi hz hsz hby rfl (by omega) v xs.length (xs.flatMap ccV) hown ad ys.length c (ys.flatMap ccV) (flat_len _ 15 ccV_len ys) (newsC hr) (flat_one ccV_one ys) (by simp [maxLen]; omega) (by omega) hbase
    exact ⟨v', w', h1, by rw [List.length_append, List.flatMap_append]; exact h2, h3⟩
  | none =>
    have h0 : ys = [] := by
      cases ys with
      | nil => rfl
      | cons r xs => obtain ⟨b, o, hA, _⟩ := hr 0 r rfl; cases hA
    subst h0
    obtain rfl := hA0 rfl
    exact ⟨v, w, run_append_owned_none w base 29 ty 42 i 15 Try.underlying29 hi v xs.length _ hown, by simpa using hown, World.grownBy.refl _ _⟩
/-- append(out, src...) in a region that draws -/
theorem opt_appC {ops : Array Oper} {o : Oper} {a : Act} {w : World} {R : Value → World → Prop} (hgd : o.guard = none) (s x : Operand) (ho : o.op = .call { callee := .builtin .append, args := #[s, x], argTypes := #[29, 29] })
    {base B : Nat} {v u : Value} {xs ys : List Ch} (hs : a.eval s = v) (hx : a.eval x = u) (hown : w.ownsRow base 42 15 v xs.length (xs.flatMap ccV)) (hu : SlC B w u ys) (hl : xs.length + ys.length ≤ 1172812402926) (hbase : base ≤ w.heap.size)
    (h : ∀ v' w', w'.ownsRow base 42 15 v' (xs ++ ys).length ((xs ++ ys).flatMap ccV) → w.grownBy w' v.ownBlock → R v' w') : Og.Opt Try.prog ops o a w R := by
  obtain ⟨v', w', hr, h2, h3⟩ := run_appC o.type hown hu hl hbase
  unfold Og.Opt
  rw [if_pos (by simp [Region.wanted, hgd])]
  unfold Og.OpY execOp
  simp only [ho, resolve, invoke, builtin, Sem.run_bind, Sem.run_pure, Result.andThen_ok, List.map_toArray, List.map_cons, List.map_nil, hs, hx, hr]
  exact h v' w' h2 h3
theorem wpList_appC {ops : Array Oper} {rest : List Oper} {o : Oper} {a : Act} {w : World} {Q : Exit → Act → World → Prop} (hgd : o.guard = none) (s x : Operand) (ho : o.op = .call { callee := .builtin .append, args := #[s, x], argTypes := #[29, 29] })
    {base B : Nat} {v u : Value} {xs ys : List Ch} (hs : a.eval s = v) (hx : a.eval x = u) (hown : w.ownsRow base 42 15 v xs.length (xs.flatMap ccV)) (hu : SlC B w u ys) (hl : xs.length + ys.length ≤ 1172812402926) (hbase : base ≤ w.heap.size)
    (h : ∀ v' w', w'.ownsRow base 42 15 v' (xs ++ ys).length ((xs ++ ys).flatMap ccV) → w.grownBy w' v.ownBlock → wpList Try.prog ops Q rest (a.put o.dst v') w') : wpList Try.prog ops Q (o :: rest) a w := by
  obtain ⟨v', w', hr, h2, h3⟩ := run_appC o.type hown hu hl hbase
  refine wpList_plain hgd fun K hK => ?_
  unfold Oper.wp execOp
  simp only [ho, resolve, invoke, builtin, Sem.run_bind, Sem.run_pure, Result.andThen_ok, List.map_toArray, List.map_cons, List.map_nil, hs, hx, hr]
  exact hK _ _ (h v' w' h2 h3)
theorem grown_any {w w' : World} {row : Option Nat} (h : Below w.heap.size w w') : w.grownBy w' row := ⟨h.os, h.tape, h.output, h.size, fun k hk _ => h.block k hk⟩
theorem SlC.grown {B : Nat} {w w' : World} {v : Value} {xs : List Ch} {row : Option Nat} (h : SlC B w v xs) (hg : w.grownBy w' row) (hr : ∀ k, row = some k → k < B) : SlC B w' v xs := by
  obtain ⟨A, c, rfl, h1, h2, h3, h4⟩ := h
  refine ⟨A, c, rfl, fun i r hi => ?_, h2, h3, h4⟩
  obtain ⟨b, o, rfl, ha⟩ := h1 i r hi
  have hB : B ≤ b := h3 _ rfl
  have hne : some b ≠ row := fun e => by have := hr b e.symm; omega
  exact ⟨b, o, rfl, AtC_of fun k u hu => hg.cell (AtC_get ha k u hu) hne⟩
theorem row_ne {w : World} {base : Nat} {v : Value} {n g : Nat} {xs : List Value} {e t : TypeId} {sz : Nat} {cs : Array Value} {f : Nat × Nat} (h : w.ownsRow base e sz v n xs) (hg : w.heap[g]? = some (.cells cs t f)) (ht : t ≠ e) : some g ≠ v.ownBlock := by
  rcases h.2 with ⟨rfl, _⟩ | ⟨g', cap, cur, rfl, _, hg', _⟩
  · simp [Value.ownBlock]
  · simp only [Value.ownBlock, ne_eq, Option.some.injEq]
    rintro rfl
    rw [hg] at hg'
    cases hg'
    exact ht rfl
theorem row_rows {w : World} {base base' : Nat} {v v' : Value} {n n' : Nat} {xs xs' : List Value} {e t : TypeId} {sz sz' : Nat} (h : w.ownsRow base e sz v n xs) (h' : w.ownsRow base' t sz' v' n' xs') (ht : t ≠ e) : v'.ownBlock = none ∨ v'.ownBlock ≠ v.ownBlock := by
  rcases h'.2 with ⟨rfl, _⟩ | ⟨g', cap, cur, rfl, _, hg', _⟩
  · exact .inl rfl
  · exact .inr (row_ne h hg' ht)
theorem next_row (ps : List Pf) (p : Pf) (first : Bool) (s : Value) (base : Nat) (w : World) (hr : w.ownsRow base 35 2 s ps.length (ps.flatMap ppV)) (hl : ps.length ≤ 1125899906842624) (b : Option Pf) (hb : nxtP ps p first = b) :
    Calls Try.prog 27 #[s, .agg #[.int .u32 p.a, .int .i64 p.l], .bool first] w fun e w' => e = .returned (.tuple #[.agg #[.int .u32 (bst b).a, .int .i64 (bst b).l], .bool b.isSome]) ∧ Below w.heap.size w w' := by
  obtain ⟨A, c, rfl, h1, _⟩ := SlP_of_row hr rfl
  subst hb
  exact next_ok ps p first A c w h1 hl
theorem mem_of_drop {α : Type} {k : α → Pf} {p : Pf} {a : List α} {x : α} (h : x ∈ dropP k p a) : x ∈ a := by
  cases a with
  | nil => exact h
  | cons y t =>
    simp only [dropP] at h
    split at h
    · exact List.mem_cons_of_mem _ h
    · exact h
theorem grown_of {w w' : World} {g : Nat} (hk : ∀ k, k ≠ g → w'.heap[k]? = w.heap[k]?) (hs : w'.heap.size = w.heap.size) (hb : Below 0 w w') : w.grownBy w' (some g) := ⟨hb.os, hb.tape, hb.output, by omega, fun k _ hne => hk k (fun e => hne (by rw [e]))⟩
theorem keep_box {w w' : World} {row : Option Nat} {g : Nat} {ob : Obj} (h : w.heap[g]? = some ob) (hg : w.grownBy w' row) (hne : some g ≠ row) : w'.heap[g]? = some ob := (hg.block g (Array.getElem?_eq_some_iff.1 h).1 hne).trans h

set_option maxHeartbeats 2000000 in
theorem rAll_no (xs ys : List Ro) (A A' : Option Addr) (c c' : Nat) (w : World) (hr : RdR w A xs) (hr' : RdR w A' ys) (hl : xs.length ≤ 2513169434843) (hl' : ys.length ≤ 2513169434843) (hf : ∀ (i : Nat) r, xs[i]? = some r → FitR r) (hf' : ∀ (i : Nat) r, ys[i]? = some r → FitR r) (h : (sndT xs && sndT ys) = false) :
    Calls Try.prog 11 #[.slice A xs.length c, .slice A' ys.length c'] w fun e w' => e = .returned (.tuple #[.slice none 0 0, .int .i64 1]) ∧ Below w.heap.size w w' := by
  have HS := Lib.hid (fun (w2 : World) (hb : Below w.heap.size w w2) => rSound_ok xs A c w2 (hr.below hb) (by omega) hf)
  have HS' := Lib.hid (fun (w2 : World) (hb : Below w.heap.size w w2) => rSound_ok ys A' c' w2 (hr'.below hb) (by omega) hf')
  obtain ⟨nx, hnx⟩ : ∃ n, n = xs.length := ⟨_, rfl⟩
  obtain ⟨ny, hny⟩ : ∃ n, n = ys.length := ⟨_, rfl⟩
  rw [← hnx] at HS ⊢
  rw [← hny] at HS' ⊢
  clear hr hr' hl hl' hf hf' hnx hny
  cases hx : sndT xs with
  | false =>
    rw [hx, errT_f] at HS
    clear h hx HS'
    go_enter Try.func11, Try.ntmps11
    go_wp2_with fail
    refine Calls.mono (HS.out w (Below.refl _ _)) ?_
    rintro e w1 ⟨rfl, hb1⟩
    have B1 := Lib.hid hb1
    clear hb1
    go_wp2_with fail
    go_ret2
    exact ⟨rfl, B1.out⟩
  | true =>
    rw [hx, Bool.true_and] at h
    rw [hx, errT_t] at HS
    rw [h, errT_f] at HS'
    clear h hx
    go_enter Try.func11, Try.ntmps11
    go_wp2_with fail
    refine Calls.mono (HS.out w (Below.refl _ _)) ?_
    rintro e w1 ⟨rfl, hb1⟩
    have B1 := Lib.hid hb1
    clear hb1
    go_wp2_with fail
    refine Calls.mono (HS'.out w1 B1.out) ?_
    rintro e w2 ⟨rfl, hb2⟩
    have B2 := Lib.hid (bthen' B1.out B1.out.size hb2)
    clear hb2
    go_wp2_with fail
    go_ret2
    exact ⟨rfl, B2.out⟩

theorem take_map_succ' {α β : Type} {f : α → β} {xs : List α} {k : Nat} {r : α} (h : xs[k]? = some r) : (xs.take (k + 1)).map f = (xs.take k).map f ++ [f r] := by
  rw [List.take_add_one, h]
  simp
set_option maxRecDepth 100000 in
set_option maxHeartbeats 8000000 in
theorem rAll_yes (xs ys : List Ro) (A A' : Option Addr) (c c' : Nat) (w : World) (hr : RdR w A xs) (hr' : RdR w A' ys) (hf : ∀ (i : Nat) r, xs[i]? = some r → FitR r) (hf' : ∀ (i : Nat) r, ys[i]? = some r → FitR r) (hsx : sndT xs = true) (hsy : sndT ys = true) :
    Calls Try.prog 11 #[.slice A xs.length c, .slice A' ys.length c'] w fun e w' => (∃ v, e = .returned (.tuple #[v, .int .i64 0]) ∧ SlC w.heap.size w' v (mrgK xs ys)) ∧ Below w.heap.size w w' := by
  have hl := sndT_len hsx hf
  have hl' := sndT_len hsy hf'
  have HS := Lib.hid (fun (w2 : World) (hb : Below w.heap.size w w2) => rSound_ok xs A c w2 (hr.below hb) (by omega) hf)
  have HS' := Lib.hid (fun (w2 : World) (hb : Below w.heap.size w w2) => rSound_ok ys A' c' w2 (hr'.below hb) (by omega) hf')
  have FX := Lib.hid (fun (p : Pf) (w2 : World) (hb : Below w.heap.size w w2) => find_ok xs p A c w2 (hr.below hb) (by omega))
  have FY := Lib.hid (fun (p : Pf) (w2 : World) (hb : Below w.heap.size w w2) => find_ok ys p A' c' w2 (hr'.below hb) (by omega))
  have SX := Lib.hid (And.intro (sndT_srt hsx) (sndT_srt hsy))
  have NE := Lib.hid (And.intro (sndT_ne hsx) (sndT_ne hsy))
  have ML := Lib.hid (mrgK_len xs ys)
  rw [hsx, errT_t] at HS
  rw [hsy, errT_t] at HS'
  clear hsx hsy hf hf'
  obtain ⟨nx, hnx⟩ : ∃ n, n = xs.length := ⟨_, rfl⟩
  obtain ⟨ny, hny⟩ : ∃ n, n = ys.length := ⟨_, rfl⟩
  rw [← hnx] at HS FX hl ⊢
  rw [← hny] at HS' FY hl' ⊢
  have HN := Lib.hid hnx
  have HN' := Lib.hid hny
  have HR := Lib.hid hr
  have HR' := Lib.hid hr'
  clear hr hr' hnx hny
  obtain ⟨i0, hi, hz0, hz1, hz2⟩ := info_parts info35
  go_enter Try.func11, Try.ntmps11
  go_wp2_with fail
  refine Calls.mono (HS.out w (Below.refl _ _)) ?_
  rintro e w1 ⟨rfl, hb1⟩
  have B1 := Lib.hid hb1
  clear hb1 HS
  go_wp2_with fail
  refine Calls.mono (HS'.out w1 B1.out) ?_
  rintro e w2 ⟨rfl, hb2⟩
  have B2 := Lib.hid (bthen' B1.out B1.out.size hb2)
  clear hb2 HS' B1
  go_wp2_with fail
  go_loopw [6, 7] (fun s i wr => ∃ k : Nat, k ≤ nx ∧ i = .int .i64 k ∧ Hid (wr.ownsRow w.heap.size 35 2 s k (((xs.take k).map Ro.p).flatMap ppV)) ∧ Hid (Below w.heap.size w wr)) (fun _ i _ => nx - (intOf i).toNat)
  case atStart => exact ⟨0, Nat.zero_le _, rfl, Lib.hid (by simpa using fresh_row w2 35 2 w.heap.size B2.out.size), Lib.hid (B2.out.alloc B2.out.size _)⟩
  case round =>
    obtain ⟨k, hk, rfl, hown, hbw⟩ := hrel
    by_cases hlt : k < nx
    · obtain ⟨r, hx⟩ : ∃ r, xs[k]? = some r := ⟨_, List.getElem?_eq_getElem (by rw [← HN.out]; exact hlt)⟩
      obtain ⟨b, o, rfl, ha⟩ := (HR.out.below hbw.out) k r hx
      have HT := Lib.hid (take_map_succ' (f := Ro.p) hx)
      obtain ⟨c0, c1, c2, c3, c4, c5, c6⟩ := ha
      have hwk : IntKind.i64.wrap (k : Int) = k := wrapk (by omega)
      have hk0 : (0 : Int) ≤ (k : Int) := by omega
      have hkn : (k : Int) < (nx : Int) := by omega
      clear hx c2 c3 c4 c5 c6
      go_wp2_with (at_builtin; refine wpList_append_own _ rfl (.tmp 27) (.tmp 33) 57 rfl w.heap.size 35 i0 _ 2 16 Try.underlying57 hi hz0 hz1 hz2 rfl (by decide) _ k _ rfl (own_below hown.out (by repeat (first | exact Below.refl _ _ | refine Below.alloc ?_ (by first | exact Nat.le_refl _ | (simp; done) | (simp; omega)) _))) ⟨wr.heap.size, 0, none⟩ 1 1 (ppV r.p) rfl rfl (news_block (by simp)) (ppV_one _) (by unfold maxLen; omega) (by omega) (by have := hbw.out.size; simp; omega) ?_; intro v1 w1 hown1 hgrow1 hnil1)
      go_roundw
      case rel => exact ⟨k + 1, by omega, by go_num, Lib.hid (by rw [HT.out, List.flatMap_append]; simpa using hown1), Lib.hid ((hbw.out.trans (by repeat (first | exact Below.refl _ _ | refine Below.alloc ?_ (by have := hbw.out.size; first | omega | (simp; omega)) _))).grown hgrow1 (by have := hbw.out.size; simp; omega) (fun j hj => (hown.out.lt j hj).1))⟩
      case measure => simp [intOf]; omega
    · have hkn : k = nx := by omega
      subst hkn
      have R1 : Hid (wr.ownsRow w.heap.size 35 2 u6 (k + 0) ((xs.map Ro.p ++ (ys.take 0).map Ro.p).flatMap ppV)) := Lib.hid (by
        have := hown.out
        rw [show xs.take k = xs by rw [HN.out, List.take_length]] at this
        simpa using this)
      obtain ⟨wo, rfl⟩ : ∃ wo : World, wo = wr := ⟨_, rfl⟩
      have B3 := hbw
      obtain ⟨nx, rfl⟩ : ∃ nx : Nat, nx = k := ⟨_, rfl⟩
      clear hown hbw hk hlt B2
      go_wp2_with fail
      go_loopw [6, 8] (fun s i wr => ∃ k : Nat, k ≤ ny ∧ i = .int .i64 k ∧ Hid (wr.ownsRow w.heap.size 35 2 s (nx + k) ((xs.map Ro.p ++ (ys.take k).map Ro.p).flatMap ppV)) ∧ Hid (Below w.heap.size w wr)) (fun _ i _ => ny - (intOf i).toNat)
      case atStart => exact ⟨0, Nat.zero_le _, rfl, R1, B3⟩
      case round =>
        clear R1 B3
        obtain ⟨k, hk, rfl, hown, hbw⟩ := hrel
        by_cases hlt : k < ny
        · obtain ⟨r, hx⟩ : ∃ r, ys[k]? = some r := ⟨_, List.getElem?_eq_getElem (by rw [← HN'.out]; exact hlt)⟩
          obtain ⟨b, o, rfl, ha⟩ := (HR'.out.below hbw.out) k r hx
          have HT := Lib.hid (take_map_succ' (f := Ro.p) hx)
          obtain ⟨c0, c1, c2, c3, c4, c5, c6⟩ := ha
          have hwk : IntKind.i64.wrap (k : Int) = k := wrapk (by omega)
          have hk0 : (0 : Int) ≤ (k : Int) := by omega
          have hkn : (k : Int) < (ny : Int) := by omega
          clear hx c2 c3 c4 c5 c6
          go_wp2_with (at_builtin; refine wpList_append_own _ rfl (.tmp 41) (.tmp 47) 57 rfl w.heap.size 35 i0 _ 2 16 Try.underlying57 hi hz0 hz1 hz2 rfl (by decide) _ (nx + k) _ rfl (own_below hown.out (by repeat (first | exact Below.refl _ _ | refine Below.alloc ?_ (by first | exact Nat.le_refl _ | (simp; done) | (simp; omega)) _))) ⟨wr.heap.size, 0, none⟩ 1 1 (ppV r.p) rfl rfl (news_block (by simp)) (ppV_one _) (by unfold maxLen; omega) (by omega) (by have := hbw.out.size; simp; omega) ?_; intro v1 w1 hown1 hgrow1 hnil1)
          go_roundw
          case rel => exact ⟨k + 1, by omega, by go_num, Lib.hid (by rw [HT.out, ← List.append_assoc, List.flatMap_append]; simpa [Nat.add_assoc] using hown1), Lib.hid ((hbw.out.trans (by repeat (first | exact Below.refl _ _ | refine Below.alloc ?_ (by have := hbw.out.size; first | omega | (simp; omega)) _))).grown hgrow1 (by have := hbw.out.size; simp; omega) (fun j hj => (hown.out.lt j hj).1))⟩
          case measure => simp [intOf]; omega
        · have hkn : k = ny := by omega
          subst hkn
          obtain ⟨ps, hps⟩ : ∃ ps, ps = xs.map Ro.p ++ ys.map Ro.p := ⟨_, rfl⟩
          have HP := Lib.hid hps
          have hpl : ps.length = nx + k := by rw [hps, List.length_append, List.length_map, List.length_map, ← HN.out, ← HN'.out]
          have RP : Hid (wr.ownsRow w.heap.size 35 2 u6 ps.length (ps.flatMap ppV)) := Lib.hid (by
            have := hown.out
            rw [show ys.take k = ys by rw [HN'.out, List.take_length], ← HP.out] at this
            rw [hpl]; exact this)
          have hpl' : ps.length ≤ 1125899906842624 := by omega
          have HPL := Lib.hid hpl'
          obtain ⟨wo, rfl⟩ : ∃ wo : World, wo = wr := ⟨_, rfl⟩
          have B4 := hbw
          have N1 := Lib.hid (show nxtP ps ⟨0, 0⟩ true = hdK (xs.map Ro.p) (ys.map Ro.p) by rw [HP.out]; exact first_hd SX.out.1 SX.out.2)
          clear hps hpl hpl' hown hbw hk hlt
          go_wp2_with fail
          have RP1 : Hid ((wo.alloc (.cells #[] 42)).ownsRow w.heap.size 35 2 u6 ps.length (ps.flatMap ppV)) := Lib.hid (RP.out.alloc _)
          refine Calls.mono (next_row ps ⟨0, 0⟩ true u6 w.heap.size _ RP1.out HPL.out _ N1.out) ?_
          rintro e w3 ⟨rfl, hb3⟩
          have RP2 := Lib.hid (own_below RP1.out hb3)
          have RO := Lib.hid (own_below (fresh_row wo 42 15 w.heap.size B4.out.size) hb3)
          have B5 := Lib.hid (bthen' (B4.out.alloc B4.out.size (.cells #[] 42)) (by have := B4.out.size; simp; omega) hb3)
          clear RP RP1 N1 B4 hb3
          go_wp2_with fail
          have HUB : Hid (∀ k, u6.ownBlock = some k → k < w3.heap.size) := Lib.hid (fun k hk => (RP2.out.lt k hk).2)
          have HBX := Lib.hid B5.out.size
          go_loopg [9, 11] (xs.length + ys.length) (fun gk s okv wr => ∃ (pre : List Ch) (a b : List Ro) (hd : Option Pf), gk = a.length + b.length ∧ okv = .bool hd.isSome ∧ Hid (hdK (a.map Ro.p) (b.map Ro.p) = hd) ∧ Hid (pre ++ mrgK a b = mrgK xs ys) ∧ Hid (Stand Ro.p Ro.p xs ys a b) ∧ Hid (wr.ownsRow w.heap.size 42 15 s pre.length (pre.flatMap ccV)) ∧ Hid (wr.ownsRow w.heap.size 35 2 u6 ps.length (ps.flatMap ppV)) ∧ Hid (wr.heap[w3.heap.size]? = some (.cells #[.int .u32 (bst hd).a, .int .i64 (bst hd).l] 35 (0, 0))) ∧ Hid (Below w.heap.size w wr) ∧ Hid ((∀ r ∈ a, r ≠ zR) ∧ (∀ r ∈ b, r ≠ zR)))
          case atStart =>
            refine ⟨[], xs, ys, _, rfl, rfl, Lib.hid rfl, Lib.hid rfl, Lib.hid (Stand.start SX.out.1 SX.out.2), Lib.hid ?_, Lib.hid (RP2.out.alloc _), Lib.hid (heap_at rfl), Lib.hid (B5.out.alloc B5.out.size _), NE⟩
            exact RO.out.alloc _
          case round =>
            clear RO RP2 B5
            obtain ⟨pre, a, b, hd, rfl, rfl, hh, hpre, hst, hown, hrow, hbox, hbw, hne⟩ := hrel
            obtain ⟨B0, hB0⟩ : ∃ B0, B0 = w3.heap.size := ⟨_, rfl⟩
            rw [← hB0] at hbox HUB HBX ⊢
            cases hd with
            | none =>
              have hab : pre = mrgK xs ys := by
                obtain ⟨h1, h2⟩ := hdK_none hh.out
                rw [List.map_eq_nil_iff] at h1 h2
                subst h1 h2
                have := hpre.out
                rwa [mrgK_nil, List.append_nil] at this
              have HAB := Lib.hid hab
              clear hab hB0
              go_wp2_with fail
              go_ret2
              exact ⟨⟨_, rfl, by rw [← HAB.out]; exact SlC_of_row hown.out rfl⟩, hbw.out⟩
            | some p =>
              simp only [bst, Option.getD_some] at hbox
              obtain ⟨o, ho⟩ : ∃ o, o = (headP Ro.p p a).getD zR := ⟨_, rfl⟩
              obtain ⟨n, hn⟩ : ∃ n, n = (headP Ro.p p b).getD zR := ⟨_, rfl⟩
              have F1 : Hid (∀ w2, Below wr.heap.size wr w2 → Calls Try.prog 29 #[.slice A nx c, .agg #[.int .u32 p.a, .int .i64 p.l]] w2 fun e w' => e = .returned (.agg #[.int .u32 o.p.a, .int .i64 o.p.l, .int .i64 o.m, .int .u64 o.o0, .int .u64 o.o1, .int .u64 o.h0, .int .u64 o.h1]) ∧ Below w2.heap.size w2 w') := Lib.hid (fun w2 hb => by
                have := FX.out p w2 (bthen' hbw.out hbw.out.size hb)
                rwa [show fnd xs p = o by unfold fnd; rw [hst.out.finda hh.out, ho]] at this)
              have F2 : Hid (∀ w2, Below wr.heap.size wr w2 → Calls Try.prog 29 #[.slice A' k c', .agg #[.int .u32 p.a, .int .i64 p.l]] w2 fun e w' => e = .returned (.agg #[.int .u32 n.p.a, .int .i64 n.p.l, .int .i64 n.m, .int .u64 n.o0, .int .u64 n.o1, .int .u64 n.h0, .int .u64 n.h1]) ∧ Below w2.heap.size w2 w') := Lib.hid (fun w2 hb => by
                have := FY.out p w2 (bthen' hbw.out hbw.out.size hb)
                rwa [show fnd ys p = n by unfold fnd; rw [hst.out.findb hh.out, hn]] at this)
              have C1 : Hid (∀ w2, Below wr.heap.size wr w2 → Calls Try.prog 28 #[.agg #[.int .u32 o.p.a, .int .i64 o.p.l, .int .i64 o.m, .int .u64 o.o0, .int .u64 o.o1, .int .u64 o.h0, .int .u64 o.h1], .agg #[.int .u32 n.p.a, .int .i64 n.p.l, .int .i64 n.m, .int .u64 n.o0, .int .u64 n.o1, .int .u64 n.h0, .int .u64 n.h1]] w2 fun e w' => (∃ v, e = .returned v ∧ SlC wr.heap.size w' v (chgL o n)) ∧ Below w2.heap.size w2 w') := Lib.hid (fun w2 hb => Calls.mono (change_ok o n w2) (by
                rintro e w' ⟨⟨v, rfl, h⟩, hb'⟩
                exact ⟨⟨v, rfl, SlC.mono h hb.size⟩, hb'⟩))
              have hstep := mrgK_step hh.out hne.out.1 hne.out.2
              rw [← ho, ← hn] at hstep
              have HPRE := Lib.hid (show (pre ++ chgL o n) ++ mrgK (dropP Ro.p p a) (dropP Ro.p p b) = mrgK xs ys by rw [List.append_assoc, ← hstep]; exact hpre.out)
              have HLEN : Hid (pre.length + (chgL o n).length ≤ 1172812402926) := Lib.hid (by
                have h1 := congrArg List.length HPRE.out
                have h2 := ML.out
                rw [← HN.out, ← HN'.out] at h2
                simp only [List.length_append] at h1
                omega)
              have N2 := Lib.hid (show nxtP ps p false = hdK ((dropP Ro.p p a).map Ro.p) ((dropP Ro.p p b).map Ro.p) by rw [HP.out]; exact hst.out.next hh.out)
              have HST := Lib.hid (hst.out.step hh.out)
              have HM := Lib.hid (drop_lt hh.out)
              have HNE : Hid ((∀ r ∈ dropP Ro.p p a, r ≠ zR) ∧ (∀ r ∈ dropP Ro.p p b, r ≠ zR)) := Lib.hid ⟨fun r hr => hne.out.1 r (mem_of_drop hr), fun r hr => hne.out.2 r (mem_of_drop hr)⟩
              obtain ⟨q0, q1⟩ := cells2 hbox.out
              have HC : ∀ w2, Below wr.heap.size wr w2 → w2.cell? ⟨B0, 0, none⟩ = some (.int .u32 p.a) ∧ w2.cell? ⟨B0, 1, none⟩ = some (.int .i64 p.l) := fun w2 h => ⟨bcell h q0, bcell h q1⟩
              have HOW : Hid (∀ k, u9.ownBlock = some k → k < wr.heap.size) := Lib.hid (fun k hk => (hown.out.lt k hk).2)
              have HNB := Lib.hid (row_ne hown.out hbox.out (by decide))
              obtain ⟨pre2, hpre2⟩ : ∃ l, l = pre ++ chgL o n := ⟨_, rfl⟩
              have HP2 := Lib.hid hpre2
              rw [← hpre2] at HPRE
              have HB0 := Lib.hid hB0
              clear hpre2 q0 q1 hstep ho hn hB0 hh hpre hst hne FX FY
              go_wp2_with fail
              refine Og.Two.walk_lit 8 [[],[],[],[1,2],[],[],[4,5,3,1,2],[3,6,1,2,4,5],[0,7,3,6,1,2,4,5],[8,0,1,2,3,4,5,6,7]] (fun w2 => Below wr.heap.size wr w2) (fun w2 => Below w.heap.size w w2 ∧ w2.heap[B0]? = some (.cells #[.int .u32 p.a, .int .i64 p.l] 35 (0, 0)) ∧ w2.ownsRow w.heap.size 35 2 u6 ps.length (ps.flatMap ppV)) (fun w1 w2 => w1.grownBy w2 u9.ownBlock) (by kernel_rfl) (by kernel_rfl) (by kernel_rfl) (bdrew) ?_
              repeat (first | (refine Og.Two.step_pure (by rfl) (fun _ => World.grownBy.refl _ _) ?_; apply Exists.intro; refine And.intro ?_ ?_; focus (intro vs w2 hC hk; have hm := HC w2 hC; revert hk; simp only [Og.KS, Og.K0, Og.Is, List.getD_cons_zero, List.getD_cons_succ, List.getD_nil, List.contains_cons, List.contains_nil, Nat.reduceAdd, Nat.reduceBEq, Bool.or_false, Bool.false_or, Bool.or_true, Bool.true_or, Bool.false_eq_true, false_implies, true_implies, true_and, and_true, forall_const]; intros; go_simp; rfl)) | (refine Og.Two.step_one (by rfl) ?_; apply Exists.intro; refine And.intro ?_ ?_; focus (intro vs w2 hC hk; have hm := HC w2 hC; revert hk; simp only [Og.KS, Og.K0, Og.Is, List.getD_cons_zero, List.getD_cons_succ, List.getD_nil, List.contains_cons, List.contains_nil, Nat.reduceAdd, Nat.reduceBEq, Bool.or_false, Bool.false_or, Bool.or_true, Bool.true_or, Bool.false_eq_true, false_implies, true_implies, true_and, and_true, forall_const]; intros; go_simp; with_reducible refine Calls.mono (F1.out w2 hC) ?_; rintro e w3 ⟨rfl, hb⟩; exact Og.RetV.mk ⟨bthen hC hb, grown_any hb, rfl⟩)) | (refine Og.Two.step_one (by rfl) ?_; apply Exists.intro; refine And.intro ?_ ?_; focus (intro vs w2 hC hk; have hm := HC w2 hC; revert hk; simp only [Og.KS, Og.K0, Og.Is, List.getD_cons_zero, List.getD_cons_succ, List.getD_nil, List.contains_cons, List.contains_nil, Nat.reduceAdd, Nat.reduceBEq, Bool.or_false, Bool.false_or, Bool.or_true, Bool.true_or, Bool.false_eq_true, false_implies, true_implies, true_and, and_true, forall_const]; intros; go_simp; with_reducible refine Calls.mono (F2.out w2 hC) ?_; rintro e w3 ⟨rfl, hb⟩; exact Og.RetV.mk ⟨bthen hC hb, grown_any hb, rfl⟩)))
              refine Og.Two.step_any (by rfl) (fun v w2 => SlC wr.heap.size w2 v (chgL o n)) (fun v w1 w2 hg h => h.grown hg HOW.out) ?_ ?_
              · intro vs w2 hC hk
                revert hk
                simp only [Og.KS, Og.K0, Og.Is, List.getD_cons_zero, List.getD_cons_succ, List.getD_nil, List.contains_cons, List.contains_nil, Nat.reduceAdd, Nat.reduceBEq, Bool.or_false, Bool.false_or, Bool.or_true, Bool.true_or, Bool.false_eq_true, false_implies, true_implies, true_and, and_true, forall_const]
                intros
                go_simp
                with_reducible refine Calls.mono (C1.out w2 hC) ?_
                rintro e w3 ⟨⟨v, rfl, hs⟩, hb⟩
                exact Og.RetV.mk ⟨bthen hC hb, grown_any hb, hs⟩
              refine Og.Two.step_mid rfl (fun v w2 => w2.ownsRow w.heap.size 42 15 v pre2.length (pre2.flatMap ccV)) ?_ ?_
              · intro vs w2 hC hk
                simp only [Og.KS, Og.K0, Og.Is, List.getD_cons_zero, List.getD_cons_succ, List.getD_nil, List.contains_cons, List.contains_nil, Nat.reduceAdd, Nat.reduceBEq, Bool.or_false, Bool.false_or, Bool.or_true, Bool.true_or, Bool.false_eq_true, false_implies, true_implies, true_and, and_true, forall_const] at hk
                obtain ⟨h7, e6, e5, e4, e3, e2, e1, e0⟩ := hk
                refine opt_appC rfl (.tmp 57) (.tmp 64) rfl (v := u9) (u := vs 7) (by go_simp) (by go_simp) (own_below hown.out hC) h7 HLEN.out (Nat.le_trans hbw.out.size hC.size) ?_
                intro v' w' hr' hg
                exact ⟨⟨(bthen' hbw.out hbw.out.size hC).grown hg (Nat.le_trans hbw.out.size hC.size) (fun j hj => (hown.out.lt j hj).1), keep_box (heap_keep hC hbox.out) hg HNB.out, (own_below hrow.out hC).kept hg (row_rows hown.out hrow.out (by decide))⟩, hg, by rw [HP2.out]; exact hr'⟩
              refine Og.Two.step_any_hi (by rfl) (fun v w2 => w2.ownsRow w.heap.size 42 15 v pre2.length (pre2.flatMap ccV)) ?_ ?_
              · intro vs w2 hC hk
                simp only [Og.KS, Og.K0, Og.Is, List.getD_cons_zero, List.getD_cons_succ, List.getD_nil, List.contains_cons, List.contains_nil, Nat.reduceAdd, Nat.reduceBEq, Bool.or_false, Bool.false_or, Bool.or_true, Bool.true_or, Bool.false_eq_true, false_implies, true_implies, true_and, and_true, forall_const] at hk
                obtain ⟨h8, h7, e6, e5, e4, e3, e2, e1, e0⟩ := hk
                go_simp
              rintro vs w2 ⟨hbw2, hbox2, hrow2⟩ hk
              simp only [Og.KS, Og.K0, Og.Is, List.getD_cons_zero, List.getD_cons_succ, List.getD_nil, List.contains_cons, List.contains_nil, Nat.reduceAdd, Nat.reduceBEq, Bool.or_false, Bool.false_or, Bool.or_true, Bool.true_or, Bool.false_eq_true, false_implies, true_implies, true_and, and_true, forall_const] at hk
              obtain ⟨h9, h8, h7, e6, e5, e4, e3, e2, e1, e0⟩ := hk
              simp only [e6, e5, e4, e3, e2, e1, e0, Act.put, List.setIfInBounds_toArray, List.set_cons_zero, List.set_cons_succ]
              have HO2 := Lib.hid h9
              have HB2 := Lib.hid hbw2
              have HX2 := Lib.hid hbox2
              have HR2 := Lib.hid hrow2
              obtain ⟨q0, q1⟩ := cells2 hbox2
              clear h9 h8 h7 e6 e5 e4 e3 e2 e1 e0 hbw2 hbox2 hrow2 hown hbw hbox hrow HC F1 F2 C1 HOW HNB
              go_wp2_with fail
              refine Calls.mono (next_row ps p false u6 w.heap.size w2 HR2.out HPL.out _ N2.out) ?_
              rintro e w4 ⟨rfl, hb4⟩
              have HB4 := Lib.hid (bthen' HB2.out HB2.out.size hb4)
              have HX4 := Lib.hid (heap_keep hb4 HX2.out)
              have HO4 := Lib.hid (own_below HO2.out hb4)
              have HR4 := Lib.hid (own_below HR2.out hb4)
              clear hb4 HB2 HX2 HO2 HR2 q0 q1
              go_wp2_with (refine wpList_store_new rfl 35 (.tmp 10) (.tmp 70) rfl rfl (B0) _ rfl rfl 35 _ (HX4.out) info35s rfl (by simp [Value.oneCell']) ?_; intro w5 hz5 hb5 hk5 hs5; have HX5 := Lib.hid hz5; have HB5 := Lib.hid (HB4.out.trans (hb5 w.heap.size (Nat.le_trans (Nat.le_refl _) HBX.out))); have HO5 := Lib.hid (HO4.out.kept (grown_of hk5 hs5 (hb5 0 (Nat.zero_le _)) : w4.grownBy w5 (some B0)) (.inr (fun e => row_ne HO4.out HX4.out (by decide) e.symm))); have HR5 := Lib.hid (HR4.out.kept (grown_of hk5 hs5 (hb5 0 (Nat.zero_le _)) : w4.grownBy w5 (some B0)) (.inr (fun e => Nat.lt_irrefl _ (HUB.out B0 e)))))
              obtain rfl := HB0.out
              go_roundg ((dropP Ro.p p a).length + (dropP Ro.p p b).length)
              case measure => exact HM.out
              case rel => exact ⟨pre2, _, _, _, rfl, rfl, Lib.hid rfl, HPRE, HST, HO5, HR5, HX5, HB5, HNE⟩

end Go.Proofs.Ytpnhkniegjfncaa
