/- delta.Join: what it answers; conditions: the lists fit the memory. -/
import Derived.Test.YtpnhkniegjfncaaD28
import Derived.Test.YtpnhkniegjfncaaOg4
namespace Go.Proofs.Ytpnhkniegjfncaa
open Go.ChangeShapes Go.WideShapes Go.ChangeAt Go.RowKit
set_option linter.unusedVariables false
set_option linter.unusedSimpArgs false
attribute [local go_sem] Og.Opt Og.OpY
attribute [local go_sem high] eqB1 eqP1 eqR1 eqC1

/-- what joining answers -/
def JoinR (xs ys : List Ch) (B : Nat) (e : Ending) (w' : World) : Prop :=
  ((sndC xs && sndC ys) = false ∧ e = .returned (.tuple #[.slice none 0 0, .int .i64 1])) ∨
  ((sndC xs && sndC ys) = true ∧ jn xs ys = none ∧ e = .returned (.tuple #[.slice none 0 0, .int .i64 8])) ∨
  ((sndC xs && sndC ys) = true ∧ ∃ L v, jn xs ys = some L ∧ e = .returned (.tuple #[v, .int .i64 0]) ∧ SlC B w' v L)
/-- the slice v reads as xs -/
def SlW (w : World) (v : Value) (xs : List Ch) : Prop := ∃ A c, v = .slice A xs.length c ∧ RdC w A xs ∧ xs.length ≤ c
theorem SlW.tail {w : World} {b o c c2 : Nat} {x : Ch} {a : List Ch} {A : Option Addr} (hc2 : c2 = c - 1) (h : SlW w (.slice (some ⟨b, o, none⟩) (a.length + 1) c) (x :: a)) (hA : c ≠ 1 → A = some ⟨b, o + 15, none⟩) : SlW w (.slice A a.length c2) a := by
  subst hc2
  obtain ⟨A0, c0, hv, hr, h2⟩ := h
  cases hv
  rw [List.length_cons] at h2
  refine ⟨A, c - 1, rfl, fun i r hi => ?_, by omega⟩
  have hi' := (List.getElem?_eq_some_iff.1 hi).1
  obtain ⟨b1, o1, he, ha⟩ := hr (i + 1) r (by simpa using hi)
  cases he
  refine ⟨_, _, hA (by omega), ?_⟩
  rwa [show o + 15 + i * 15 = o + (i + 1) * 15 by omega]
theorem jn_move {r : Option (List Ch)} {pre l : List Ch} : (r.map (l ++ ·)).map (pre ++ ·) = r.map ((pre ++ l) ++ ·) := by cases r <;> simp
theorem wpList_loadX {ops : Array Oper} {rest : List Oper} {o : Oper} {a : Act} {w : World} {Q : Exit → Act → World → Prop} {b off : Nat} {x : Ch} (hgd : o.guard = none) (t : Operand) (ho : o.op = .load 42 t) (ha : a.eval t = .pointer (some ⟨b, off, none⟩)) (h : AtC w b off x)
    (k : wpList Try.prog ops Q rest (a.put o.dst (.agg #[.int .i64 x.k, .int .u32 x.o.p.a, .int .i64 x.o.p.l, .int .i64 x.o.m, .int .u64 x.o.o0, .int .u64 x.o.o1, .int .u64 x.o.h0, .int .u64 x.o.h1, .int .u32 x.n.p.a, .int .i64 x.n.p.l, .int .i64 x.n.m, .int .u64 x.n.o0, .int .u64 x.n.o1, .int .u64 x.n.h0, .int .u64 x.n.h1])) w) : wpList Try.prog ops Q (o :: rest) a w := wpList_loadC hgd t ho ha h k
/-- a fresh change -/
def AL (wq : World) (v : Value) (w : World) : Prop := ∃ g, v = .pointer (some ⟨g, 0, none⟩) ∧ wq.heap.size ≤ g ∧ w.heap[g]? = some (.cells (vC zC).cells 42 (0, 0))
theorem AL.keep {wq w w' : World} {v : Value} (h : AL wq v w) (hb : Below w.heap.size w w') : AL wq v w' := by
  obtain ⟨g, h1, h2, h3⟩ := h
  exact ⟨g, h1, h2, heap_keep hb h3⟩
theorem AL.new {wq w : World} (hb : Below wq.heap.size wq w) : AL wq (.pointer (some ⟨w.heap.size, 0, none⟩)) (w.alloc (.cells (vC zC).cells 42)) := ⟨_, rfl, hb.size, heap_alloc_new w _⟩
theorem AL.ne {wq w : World} {v : Value} (h : AL wq v w) : v ≠ .pointer (some ⟨w.heap.size, 0, none⟩) := by
  obtain ⟨g, rfl, _, h3⟩ := h
  intro e
  cases e
  exact absurd (Array.getElem?_eq_some_iff.1 h3).1 (Nat.lt_irrefl _)
/-- what is known while the two of a prefix are laid down -/
def CJ (wq : World) : Og.Joint.Cls := fun p vs w => Below wq.heap.size wq w ∧ (p 8 = true → AL wq (vs 8) w) ∧ (p 9 = true → AL wq (vs 9) w) ∧ (p 8 = true → p 9 = true → vs 8 ≠ vs 9)
theorem CJ.start {wq w : World} (hb : Below wq.heap.size wq w) : ∀ vs, CJ wq (fun _ => false) vs w := fun vs => ⟨hb, fun h => (by cases h), fun h => (by cases h), fun h => (by cases h)⟩
theorem CJ.other {wq w w' : World} {p : Nat → Bool} {vs : Nat → Value} {i : Nat} {v : Value} (h8 : i ≠ 8) (h9 : i ≠ 9) (h : CJ wq p vs w) (hb : Below w.heap.size w w') : CJ wq (Og.Joint.pSet p i) (Og.Joint.vSet vs i v) w' := by
  obtain ⟨h1, h2, h3, h4⟩ := h
  have e8 : Og.Joint.pSet p i 8 = p 8 := by simp [Og.Joint.pSet]; intro e; exact absurd e.symm h8
  have e9 : Og.Joint.pSet p i 9 = p 9 := by simp [Og.Joint.pSet]; intro e; exact absurd e.symm h9
  have v8 : Og.Joint.vSet vs i v 8 = vs 8 := by simp only [Og.Joint.vSet]; rw [if_neg (fun e => h8 e.symm)]
  have v9 : Og.Joint.vSet vs i v 9 = vs 9 := by simp only [Og.Joint.vSet]; rw [if_neg (fun e => h9 e.symm)]
  unfold CJ
  rw [e8, e9, v8, v9]
  exact ⟨bthen h1 hb, fun h => (h2 h).keep hb, fun h => (h3 h).keep hb, h4⟩
theorem CJ.a8 {wq w : World} {p : Nat → Bool} {vs : Nat → Value} (h : CJ wq p vs w) : CJ wq (Og.Joint.pSet p 8) (Og.Joint.vSet vs 8 (.pointer (some ⟨w.heap.size, 0, none⟩))) (w.alloc (.cells (vC zC).cells 42)) := by
  obtain ⟨h1, h2, h3, h4⟩ := h
  have hb : Below w.heap.size w (w.alloc (.cells (vC zC).cells 42)) := (Below.refl _ _).alloc (Nat.le_refl _) _
  have e9 : Og.Joint.pSet p 8 9 = p 9 := by simp [Og.Joint.pSet]
  refine ⟨bthen h1 hb, fun _ => AL.new h1, fun h => ?_, fun _ h => ?_⟩
  · rw [e9] at h; exact (h3 h).keep hb
  · rw [e9] at h; exact fun e => (h3 h).ne e.symm
theorem CJ.a9 {wq w : World} {p : Nat → Bool} {vs : Nat → Value} (h : CJ wq p vs w) : CJ wq (Og.Joint.pSet p 9) (Og.Joint.vSet vs 9 (.pointer (some ⟨w.heap.size, 0, none⟩))) (w.alloc (.cells (vC zC).cells 42)) := by
  obtain ⟨h1, h2, h3, h4⟩ := h
  have hb : Below w.heap.size w (w.alloc (.cells (vC zC).cells 42)) := (Below.refl _ _).alloc (Nat.le_refl _) _
  have e8 : Og.Joint.pSet p 9 8 = p 8 := by simp [Og.Joint.pSet]
  refine ⟨bthen h1 hb, fun h => ?_, fun _ => AL.new h1, fun h _ => ?_⟩
  · rw [e8] at h; exact (h2 h).keep hb
  · rw [e8] at h; exact fun e => (h2 h).ne e
theorem row_new {w : World} {base n sz g : Nat} {e : TypeId} {v : Value} {xs : List Value} (h : w.ownsRow base e sz v n xs) (hg : w.heap.size ≤ g) : v.ownBlock ≠ some g := fun e => Nat.lt_irrefl g (Nat.lt_of_lt_of_le (h.lt g e).2 hg)
theorem AtC.belowW {w wr w2 : World} {b o : Nat} {x : Ch} (h : AtC w b o x) (hb : Below w.heap.size w wr) (hc : Below wr.heap.size wr w2) : AtC w2 b o x := h.below (bthen' hb hb.size hc)

set_option maxRecDepth 100000 in
set_option maxHeartbeats 8000000 in
theorem Join_ok (xs ys : List Ch) (A A' : Option Addr) (c c' : Nat) (w : World) (hr : RdC w A xs) (hr' : RdC w A' ys) (hc : xs.length ≤ c) (hc' : ys.length ≤ c') (hl : xs.length ≤ 1172812402926) (hl' : ys.length ≤ 1172812402926) (hf : ∀ (i : Nat) r, xs[i]? = some r → FitC r) (hf' : ∀ (i : Nat) r, ys[i]? = some r → FitC r) :
    Calls Try.prog 18 #[.slice A xs.length c, .slice A' ys.length c'] w fun e w' => JoinR xs ys w.heap.size e w' ∧ Below w.heap.size w w' := by
  have HLX := Lib.hid (fun h => sndC_len (t := xs) h hf)
  have HLY := Lib.hid (fun h => sndC_len (t := ys) h hf')
  have HW := Lib.hid (show SlW w (.slice A xs.length c) xs from ⟨A, c, rfl, hr, hc⟩)
  have HW' := Lib.hid (show SlW w (.slice A' ys.length c') ys from ⟨A', c', rfl, hr', hc'⟩)
  have S1 := Lib.hid (fun (k : Nat) (hk : k < xs.length) (w2 : World) (hb : Below w.heap.size w w2) => soundAt_ok xs k A c w2 (hr.below hb) hk (by omega))
  have S2 := Lib.hid (fun (k : Nat) (hk : k < ys.length) (w2 : World) (hb : Below w.heap.size w w2) => soundAt_ok ys k A' c' w2 (hr'.below hb) hk (by omega))
  clear hr hr' hf hf' hc hc'
  obtain ⟨nx, hnx⟩ : ∃ n, n = xs.length := ⟨_, rfl⟩
  obtain ⟨ny, hny⟩ : ∃ n, n = ys.length := ⟨_, rfl⟩
  rw [← hnx] at S1 hl HW ⊢
  rw [← hny] at S2 hl' HW' ⊢
  have HN := Lib.hid hnx
  have HN' := Lib.hid hny
  clear hnx hny
  go_enter Try.func18, Try.ntmps18
  go_wp2_with fail
  go_loopw [15] (fun i wr => ∃ k : Nat, k ≤ nx ∧ i = .int .i64 k ∧ Hid (∀ j, j < k → okC xs j = true) ∧ Hid (Below w.heap.size w wr)) (fun i _ => nx - (intOf i).toNat)
  case atStart => exact ⟨0, Nat.zero_le _, rfl, Lib.hid (fun j hj => by omega), Lib.hid (Below.refl _ _)⟩
  case round =>
    obtain ⟨k, hk, rfl, hall, hbw⟩ := hrel
    by_cases hlt : k < nx
    · have hwk : IntKind.i64.wrap (k : Int) = k := wrapk (by omega)
      have hk0 : (0 : Int) ≤ (k : Int) := by omega
      have hkn : (k : Int) < (nx : Int) := by omega
      cases hg : okC xs k with
      | false =>
        have E := Lib.hid (show sndC xs = false from sndC_false (i := k) (by rw [← HN.out]; exact hlt) hg)
        have H1 := Lib.hid (S1.out k hlt wr hbw.out)
        rw [hg] at H1
        clear hg
        go_wp2_with fail
        refine Calls.mono H1.out ?_
        rintro e w2 ⟨rfl, hb2⟩
        have B2 := Lib.hid (bthen' hbw.out hbw.out.size hb2)
        clear hb2
        go_wp2_with fail
        go_ret2
        exact ⟨.inl ⟨by rw [E.out]; rfl, rfl⟩, B2.out⟩
      | true =>
        have H1 := Lib.hid (S1.out k hlt wr hbw.out)
        rw [hg] at H1
        have N : Hid (Hid (∀ j, j < k + 1 → okC xs j = true)) := Lib.hid (Lib.hid (fun j hj => by
          by_cases hjk : j = k
          · rw [hjk]; exact hg
          · exact hall.out j (by omega)))
        clear hg
        go_wp2_with fail
        refine Calls.mono H1.out ?_
        rintro e w2 ⟨rfl, hb2⟩
        have B2 := Lib.hid (bthen' hbw.out hbw.out.size hb2)
        clear hb2 hbw
        go_wp2_with fail
        go_roundw
        case rel => exact ⟨k + 1, by omega, by go_num, N.out, B2⟩
        case measure => simp [intOf]; omega
    · have hkn : k = nx := by omega
      subst hkn
      have SX := Lib.hid (show sndC xs = true from sndC_true (fun i hi => hall.out i (by rw [HN.out]; exact hi)))
      obtain ⟨wo, rfl⟩ : ∃ wo : World, wo = wr := ⟨_, rfl⟩
      have B3 := hbw
      obtain ⟨nx, rfl⟩ : ∃ nx : Nat, nx = k := ⟨_, rfl⟩
      clear hall hbw hk hlt S1
      go_wp2_with fail
      go_loopw [25] (fun i wr => ∃ k : Nat, k ≤ ny ∧ i = .int .i64 k ∧ Hid (∀ j, j < k → okC ys j = true) ∧ Hid (Below w.heap.size w wr)) (fun i _ => ny - (intOf i).toNat)
      case atStart => exact ⟨0, Nat.zero_le _, rfl, Lib.hid (fun j hj => by omega), B3⟩
      case round =>
        clear B3
        obtain ⟨k, hk, rfl, hall, hbw⟩ := hrel
        by_cases hlt : k < ny
        · have hwk : IntKind.i64.wrap (k : Int) = k := wrapk (by omega)
          have hk0 : (0 : Int) ≤ (k : Int) := by omega
          have hkn : (k : Int) < (ny : Int) := by omega
          cases hg : okC ys k with
          | false =>
            have E := Lib.hid (show sndC ys = false from sndC_false (i := k) (by rw [← HN'.out]; exact hlt) hg)
            have H1 := Lib.hid (S2.out k hlt wr hbw.out)
            rw [hg] at H1
            clear hg
            go_wp2_with fail
            refine Calls.mono H1.out ?_
            rintro e w2 ⟨rfl, hb2⟩
            have B2 := Lib.hid (bthen' hbw.out hbw.out.size hb2)
            clear hb2
            go_wp2_with fail
            go_ret2
            exact ⟨.inl ⟨by rw [E.out, SX.out]; rfl, rfl⟩, B2.out⟩
          | true =>
            have H1 := Lib.hid (S2.out k hlt wr hbw.out)
            rw [hg] at H1
            have N : Hid (Hid (∀ j, j < k + 1 → okC ys j = true)) := Lib.hid (Lib.hid (fun j hj => by
              by_cases hjk : j = k
              · rw [hjk]; exact hg
              · exact hall.out j (by omega)))
            clear hg
            go_wp2_with fail
            refine Calls.mono H1.out ?_
            rintro e w2 ⟨rfl, hb2⟩
            have B2 := Lib.hid (bthen' hbw.out hbw.out.size hb2)
            clear hb2 hbw
            go_wp2_with fail
            go_roundw
            case rel => exact ⟨k + 1, by omega, by go_num, N.out, B2⟩
            case measure => simp [intOf]; omega
        · have hkn : k = ny := by omega
          subst hkn
          have SY := Lib.hid (show sndC ys = true from sndC_true (fun i hi => hall.out i (by rw [HN'.out]; exact hi)))
          have SS := Lib.hid (show (sndC xs && sndC ys) = true by rw [SX.out, SY.out]; rfl)
          have LX := Lib.hid (And.intro (HLX.out SX.out) (HLY.out SY.out))
          obtain ⟨wo, rfl⟩ : ∃ wo : World, wo = wr := ⟨_, rfl⟩
          have B4 := hbw
          obtain ⟨ny, rfl⟩ : ∃ ny : Nat, ny = k := ⟨_, rfl⟩
          clear hall hbw hk hlt S2 HLX HLY SX SY
          go_wp2_with fail
          go_loopg [0, 1, 8] (xs.length + ys.length) (fun gk f s out wr => ∃ pre a b, gk = a.length + b.length ∧ Hid (SlW w f a) ∧ Hid (SlW w s b) ∧ Hid ((jn a b).map (pre ++ ·) = jn xs ys) ∧ Hid (wr.ownsRow w.heap.size 42 15 out pre.length (pre.flatMap ccV)) ∧ Hid (Below w.heap.size w wr) ∧ Hid (pre.length + a.length + b.length ≤ 283467841536))
          case atStart => exact ⟨[], xs, ys, rfl, HW, HW', Lib.hid (by simp), Lib.hid (World.ownsRow_nil _ _ _ _), B4, Lib.hid (by have := LX.out; simp; omega)⟩
          case round =>
            clear B4 HW HW' LX
            obtain ⟨pre, a, b, rfl, hf, hs, hj, hown, hbw, hlen⟩ := hrel
            cases a with
            | nil =>
              obtain ⟨A1, c1, rfl, _, _⟩ := hf.out
              cases b with
              | nil =>
                obtain ⟨A2, c2, rfl, _, _⟩ := hs.out
                have HJ := Lib.hid (show jn xs ys = some pre by rw [← hj.out, jn_nil]; simp)
                simp only [List.length_nil] at *
                go_wp2_with fail
                go_ret2
                exact ⟨.inr (.inr ⟨SS.out, pre, _, HJ.out, rfl, SlC_of_row hown.out rfl⟩), hbw.out⟩
              | cons y b =>
                simp only [List.length_nil] at ⊢
                obtain ⟨A2, c2, rfl, hr, hloy⟩ := hs.out
                obtain ⟨bb', o', rfl, hat⟩ := hr 0 y rfl
                rw [Nat.zero_mul, Nat.add_zero] at hat
                have HAY := Lib.hid hat
                obtain ⟨nb, hnb⟩ : ∃ n, n = b.length := ⟨_, rfl⟩
                have HNB := Lib.hid hnb
                have hlnb : nb ≤ 283467841536 := by have := hlen.out; simp only [List.length_cons] at this; omega
                have h0nb : ¬ ((nb : Int) + 1 = 0) := by omega
                have h1nb : (1 : Int) ≤ (nb : Int) + 1 := by omega
                have h2nb : (0 : Int) < (nb : Int) + 1 := by omega
                have t0nb : ((nb : Int) + 1 == 0) = false := by simp; omega
                have h3nb : nb + 1 ≤ c2 := by rw [hnb]; exact hloy
                simp only [List.length_cons] at ⊢
                rw [← hnb]
                clear hr hat hnb hloy
                have HP : Hid (∀ w, Calls Try.prog 34 #[vC y] w fun e w' => e = .returned (.agg #[.int .i64 (plC y).k, .int .u32 (plC y).o.p.a, .int .i64 (plC y).o.p.l, .int .i64 (plC y).o.m, .int .u64 (plC y).o.o0, .int .u64 (plC y).o.o1, .int .u64 (plC y).o.h0, .int .u64 (plC y).o.h1, .int .u32 (plC y).n.p.a, .int .i64 (plC y).n.p.l, .int .i64 (plC y).n.m, .int .u64 (plC y).n.o0, .int .u64 (plC y).n.o1, .int .u64 (plC y).n.h0, .int .u64 (plC y).n.h1]) ∧ Below w.heap.size w w') := Lib.hid (fun w => plain_ok y w)
                go_wp2_with fail
                refine Og.walk_lit [[],[0],[1,0],[2,1,0],[3,2,1,0],[4,3,2,1,0],[5,3,4,2,1,0],[6,3,5,4,2,1,0],[7,6,3,5,4,2,1,0],[8,7,6,3,5,4,2,1,0],[9,7,8,6,3,5,4,2,1,0],[10,7,9,8,6,3,5,4,2,1,0],[7,6,3,5,4,2,1,0],[12,7,6,3,5,4,2,1,0],[13,7,12,6,3,5,4,2,1,0],[14,11,7,13,12,6,3,5,4,2,1,0,10,9,8],[11,15,7,10,9,8,6,3,5,4,2,1,0,14,13,12],[7,16,3,6,5,4,2,1,0,11,15,10,9,8,14,13,12],[3,17,2,1,0,7,16,6,5,4,11,15,10,9,8,14,13,12],[18,16,3,17,2,1,0,7,6,5,4,11,15,10,9,8,14,13,12]] (fun w2 => Below wr.heap.size wr w2) (fun w1 w2 => Below w1.heap.size w1 w2) (by kernel_rfl) (by kernel_rfl) (bdrew) ?_
                refine Og.step_pure (fun _ => Below.refl _ _) ?_; apply Exists.intro; refine And.intro ?_ ?_; focus (intro vs w2 hC hk; revert hk; simp only [Og.KS, Og.K0, Og.Is, List.getD_cons_zero, List.getD_cons_succ, List.getD_nil, List.contains_cons, List.contains_nil, Nat.reduceAdd, Nat.reduceBEq, Bool.or_false, Bool.false_or, Bool.or_true, Bool.true_or, Bool.false_eq_true, false_implies, true_implies, true_and, and_true, forall_const]; intros; go_simp; rfl)
                refine Og.step_pure (fun _ => Below.refl _ _) ?_; apply Exists.intro; refine And.intro ?_ ?_; focus (intro vs w2 hC hk; revert hk; simp only [Og.KS, Og.K0, Og.Is, List.getD_cons_zero, List.getD_cons_succ, List.getD_nil, List.contains_cons, List.contains_nil, Nat.reduceAdd, Nat.reduceBEq, Bool.or_false, Bool.false_or, Bool.or_true, Bool.true_or, Bool.false_eq_true, false_implies, true_implies, true_and, and_true, forall_const]; intros; go_simp; rfl)
                refine Og.step_pure (fun _ => Below.refl _ _) ?_; apply Exists.intro; refine And.intro ?_ ?_; focus (intro vs w2 hC hk; revert hk; simp only [Og.KS, Og.K0, Og.Is, List.getD_cons_zero, List.getD_cons_succ, List.getD_nil, List.contains_cons, List.contains_nil, Nat.reduceAdd, Nat.reduceBEq, Bool.or_false, Bool.false_or, Bool.or_true, Bool.true_or, Bool.false_eq_true, false_implies, true_implies, true_and, and_true, forall_const]; intros; go_simp; rfl)
                refine Og.step_pure (fun _ => Below.refl _ _) ?_; apply Exists.intro; refine And.intro ?_ ?_; focus (intro vs w2 hC hk; revert hk; simp only [Og.KS, Og.K0, Og.Is, List.getD_cons_zero, List.getD_cons_succ, List.getD_nil, List.contains_cons, List.contains_nil, Nat.reduceAdd, Nat.reduceBEq, Bool.or_false, Bool.false_or, Bool.or_true, Bool.true_or, Bool.false_eq_true, false_implies, true_implies, true_and, and_true, forall_const]; intros; go_simp; rfl)
                refine Og.step_pure (fun _ => Below.refl _ _) ?_; apply Exists.intro; refine And.intro ?_ ?_; focus (intro vs w2 hC hk; revert hk; simp only [Og.KS, Og.K0, Og.Is, List.getD_cons_zero, List.getD_cons_succ, List.getD_nil, List.contains_cons, List.contains_nil, Nat.reduceAdd, Nat.reduceBEq, Bool.or_false, Bool.false_or, Bool.or_true, Bool.true_or, Bool.false_eq_true, false_implies, true_implies, true_and, and_true, forall_const]; intros; go_simp; rfl)
                refine Og.step_pure (fun _ => Below.refl _ _) ?_; apply Exists.intro; refine And.intro ?_ ?_; focus (intro vs w2 hC hk; revert hk; simp only [Og.KS, Og.K0, Og.Is, List.getD_cons_zero, List.getD_cons_succ, List.getD_nil, List.contains_cons, List.contains_nil, Nat.reduceAdd, Nat.reduceBEq, Bool.or_false, Bool.false_or, Bool.or_true, Bool.true_or, Bool.false_eq_true, false_implies, true_implies, true_and, and_true, forall_const]; intros; go_simp; rfl)
                refine Og.step_pure (fun _ => Below.refl _ _) ?_; apply Exists.intro; refine And.intro ?_ ?_; focus (intro vs w2 hC hk; revert hk; simp only [Og.KS, Og.K0, Og.Is, List.getD_cons_zero, List.getD_cons_succ, List.getD_nil, List.contains_cons, List.contains_nil, Nat.reduceAdd, Nat.reduceBEq, Bool.or_false, Bool.false_or, Bool.or_true, Bool.true_or, Bool.false_eq_true, false_implies, true_implies, true_and, and_true, forall_const]; intros; go_simp; rfl)
                refine Og.step_pure (fun _ => Below.refl _ _) ?_; apply Exists.intro; refine And.intro ?_ ?_; focus (intro vs w2 hC hk; revert hk; simp only [Og.KS, Og.K0, Og.Is, List.getD_cons_zero, List.getD_cons_succ, List.getD_nil, List.contains_cons, List.contains_nil, Nat.reduceAdd, Nat.reduceBEq, Bool.or_false, Bool.false_or, Bool.or_true, Bool.true_or, Bool.false_eq_true, false_implies, true_implies, true_and, and_true, forall_const]; intros; go_simp; rfl)
                refine Og.step_pure (fun _ => Below.refl _ _) ?_; apply Exists.intro; refine And.intro ?_ ?_; focus (intro vs w2 hC hk; revert hk; simp only [Og.KS, Og.K0, Og.Is, List.getD_cons_zero, List.getD_cons_succ, List.getD_nil, List.contains_cons, List.contains_nil, Nat.reduceAdd, Nat.reduceBEq, Bool.or_false, Bool.false_or, Bool.or_true, Bool.true_or, Bool.false_eq_true, false_implies, true_implies, true_and, and_true, forall_const]; intros; go_simp; rfl)
                refine Og.step_pure (fun _ => Below.refl _ _) ?_; apply Exists.intro; refine And.intro ?_ ?_; focus (intro vs w2 hC hk; revert hk; simp only [Og.KS, Og.K0, Og.Is, List.getD_cons_zero, List.getD_cons_succ, List.getD_nil, List.contains_cons, List.contains_nil, Nat.reduceAdd, Nat.reduceBEq, Bool.or_false, Bool.false_or, Bool.or_true, Bool.true_or, Bool.false_eq_true, false_implies, true_implies, true_and, and_true, forall_const]; intros; go_simp; rfl)
                refine Og.step_pure (fun _ => Below.refl _ _) ?_; apply Exists.intro; refine And.intro ?_ ?_; focus (intro vs w2 hC hk; revert hk; simp only [Og.KS, Og.K0, Og.Is, List.getD_cons_zero, List.getD_cons_succ, List.getD_nil, List.contains_cons, List.contains_nil, Nat.reduceAdd, Nat.reduceBEq, Bool.or_false, Bool.false_or, Bool.or_true, Bool.true_or, Bool.false_eq_true, false_implies, true_implies, true_and, and_true, forall_const]; intros; go_simp; rfl)
                refine Og.step_pure (fun _ => Below.refl _ _) ?_; apply Exists.intro; refine And.intro ?_ ?_; focus (intro vs w2 hC hk; revert hk; simp only [Og.KS, Og.K0, Og.Is, List.getD_cons_zero, List.getD_cons_succ, List.getD_nil, List.contains_cons, List.contains_nil, Nat.reduceAdd, Nat.reduceBEq, Bool.or_false, Bool.false_or, Bool.or_true, Bool.true_or, Bool.false_eq_true, false_implies, true_implies, true_and, and_true, forall_const]; intros; go_simp; rfl)
                refine Og.step_pure (fun _ => Below.refl _ _) ?_; apply Exists.intro; refine And.intro ?_ ?_; focus (intro vs w2 hC hk; revert hk; simp only [Og.KS, Og.K0, Og.Is, List.getD_cons_zero, List.getD_cons_succ, List.getD_nil, List.contains_cons, List.contains_nil, Nat.reduceAdd, Nat.reduceBEq, Bool.or_false, Bool.false_or, Bool.or_true, Bool.true_or, Bool.false_eq_true, false_implies, true_implies, true_and, and_true, forall_const]; intros; go_simp; rfl)
                refine Og.step_pure (fun _ => Below.refl _ _) ?_; apply Exists.intro; refine And.intro ?_ ?_; focus (intro vs w2 hC hk; revert hk; simp only [Og.KS, Og.K0, Og.Is, List.getD_cons_zero, List.getD_cons_succ, List.getD_nil, List.contains_cons, List.contains_nil, Nat.reduceAdd, Nat.reduceBEq, Bool.or_false, Bool.false_or, Bool.or_true, Bool.true_or, Bool.false_eq_true, false_implies, true_implies, true_and, and_true, forall_const]; intros; go_simp; rfl)
                refine Og.step_pure (fun _ => Below.refl _ _) ?_; apply Exists.intro; refine And.intro ?_ ?_; focus (intro vs w2 hC hk; revert hk; simp only [Og.KS, Og.K0, Og.Is, List.getD_cons_zero, List.getD_cons_succ, List.getD_nil, List.contains_cons, List.contains_nil, Nat.reduceAdd, Nat.reduceBEq, Bool.or_false, Bool.false_or, Bool.or_true, Bool.true_or, Bool.false_eq_true, false_implies, true_implies, true_and, and_true, forall_const]; intros; go_simp; rfl)
                refine Og.step_pure (fun _ => Below.refl _ _) ?_; apply Exists.intro; refine And.intro ?_ ?_; focus (intro vs w2 hC hk; revert hk; simp only [Og.KS, Og.K0, Og.Is, List.getD_cons_zero, List.getD_cons_succ, List.getD_nil, List.contains_cons, List.contains_nil, Nat.reduceAdd, Nat.reduceBEq, Bool.or_false, Bool.false_or, Bool.or_true, Bool.true_or, Bool.false_eq_true, false_implies, true_implies, true_and, and_true, forall_const]; intros; go_simp; rfl)
                refine Og.step_pure (fun _ => Below.refl _ _) ?_; apply Exists.intro; refine And.intro ?_ ?_; focus (intro vs w2 hC hk; revert hk; simp only [Og.KS, Og.K0, Og.Is, List.getD_cons_zero, List.getD_cons_succ, List.getD_nil, List.contains_cons, List.contains_nil, Nat.reduceAdd, Nat.reduceBEq, Bool.or_false, Bool.false_or, Bool.or_true, Bool.true_or, Bool.false_eq_true, false_implies, true_implies, true_and, and_true, forall_const]; intros; go_simp; rfl)
                refine Og.step_pure (fun _ => Below.refl _ _) ?_; apply Exists.intro; refine And.intro ?_ ?_; focus (intro vs w2 hC hk; revert hk; simp only [Og.KS, Og.K0, Og.Is, List.getD_cons_zero, List.getD_cons_succ, List.getD_nil, List.contains_cons, List.contains_nil, Nat.reduceAdd, Nat.reduceBEq, Bool.or_false, Bool.false_or, Bool.or_true, Bool.true_or, Bool.false_eq_true, false_implies, true_implies, true_and, and_true, forall_const]; intros; go_simp; rfl)
                refine Og.step_pure (fun _ => Below.refl _ _) ?_; apply Exists.intro; refine And.intro ?_ ?_; focus (intro vs w2 hC hk; revert hk; simp only [Og.KS, Og.K0, Og.Is, List.getD_cons_zero, List.getD_cons_succ, List.getD_nil, List.contains_cons, List.contains_nil, Nat.reduceAdd, Nat.reduceBEq, Bool.or_false, Bool.false_or, Bool.or_true, Bool.true_or, Bool.false_eq_true, false_implies, true_implies, true_and, and_true, forall_const]; intros; go_simp; rfl)
                refine Og.step_pure (fun _ => Below.refl _ _) ?_; apply Exists.intro; refine And.intro ?_ ?_; focus (intro vs w2 hC hk; revert hk; simp only [Og.KS, Og.K0, Og.Is, List.getD_cons_zero, List.getD_cons_succ, List.getD_nil, List.contains_cons, List.contains_nil, Nat.reduceAdd, Nat.reduceBEq, Bool.or_false, Bool.false_or, Bool.or_true, Bool.true_or, Bool.false_eq_true, false_implies, true_implies, true_and, and_true, forall_const]; intros; go_simp; rfl)
                intro vs w2 hC hk
                simp only [Og.KS, Og.K0, Og.Is, List.getD_cons_zero, List.getD_cons_succ, List.getD_nil, List.contains_cons, List.contains_nil, Nat.reduceAdd, Nat.reduceBEq, Bool.or_false, Bool.false_or, Bool.or_true, Bool.true_or, Bool.false_eq_true, false_implies, true_implies, true_and, and_true, forall_const] at hk
                simp only [hk, Act.put, List.setIfInBounds_toArray, List.set_cons_zero, List.set_cons_succ]
                clear hk
                have BQ := Lib.hid (bthen' hbw.out hbw.out.size hC)
                have HOQ := Lib.hid (own_below hown.out hC)
                clear hC hbw hown
                obtain ⟨wq, rfl⟩ : ∃ wq : World, wq = w2 := ⟨_, rfl⟩
                go_wp2_with fail
                refine Og.walk_lit [[],[0],[1,0],[2,1,0],[3,2,1,0],[4,3,2,1,0],[5,3,4,2,1,0],[6,3,5,4,2,1,0],[3,2,1,0],[8,3,2,1,0],[9,3,8,2,1,0],[10,7,3,9,8,2,1,0,6,5,4],[7,11,3,6,5,4,2,1,0,10,9,8],[3,12,2,1,0,7,11,6,5,4,10,9,8],[13,12,3,2,1,0,7,11,6,5,4,10,9,8]] (fun w2 => Below wq.heap.size wq w2) (fun w1 w2 => Below w1.heap.size w1 w2) (by kernel_rfl) (by kernel_rfl) (bdrew) ?_
                refine Og.step_pure (fun _ => Below.refl _ _) ?_; apply Exists.intro; refine And.intro ?_ ?_; focus (intro vs w2 hC hk; revert hk; simp only [Og.KS, Og.K0, Og.Is, List.getD_cons_zero, List.getD_cons_succ, List.getD_nil, List.contains_cons, List.contains_nil, Nat.reduceAdd, Nat.reduceBEq, Bool.or_false, Bool.false_or, Bool.or_true, Bool.true_or, Bool.false_eq_true, false_implies, true_implies, true_and, and_true, forall_const]; intros; go_simp; rfl)
                refine Og.step_pure (fun _ => Below.refl _ _) ?_; apply Exists.intro; refine And.intro ?_ ?_; focus (intro vs w2 hC hk; revert hk; simp only [Og.KS, Og.K0, Og.Is, List.getD_cons_zero, List.getD_cons_succ, List.getD_nil, List.contains_cons, List.contains_nil, Nat.reduceAdd, Nat.reduceBEq, Bool.or_false, Bool.false_or, Bool.or_true, Bool.true_or, Bool.false_eq_true, false_implies, true_implies, true_and, and_true, forall_const]; intros; go_simp; rfl)
                refine Og.step_pure (fun _ => Below.refl _ _) ?_; apply Exists.intro; refine And.intro ?_ ?_; focus (intro vs w2 hC hk; revert hk; simp only [Og.KS, Og.K0, Og.Is, List.getD_cons_zero, List.getD_cons_succ, List.getD_nil, List.contains_cons, List.contains_nil, Nat.reduceAdd, Nat.reduceBEq, Bool.or_false, Bool.false_or, Bool.or_true, Bool.true_or, Bool.false_eq_true, false_implies, true_implies, true_and, and_true, forall_const]; intros; go_simp; rfl)
                refine Og.step_pure (fun _ => Below.refl _ _) ?_; apply Exists.intro; refine And.intro ?_ ?_; focus (intro vs w2 hC hk; revert hk; simp only [Og.KS, Og.K0, Og.Is, List.getD_cons_zero, List.getD_cons_succ, List.getD_nil, List.contains_cons, List.contains_nil, Nat.reduceAdd, Nat.reduceBEq, Bool.or_false, Bool.false_or, Bool.or_true, Bool.true_or, Bool.false_eq_true, false_implies, true_implies, true_and, and_true, forall_const]; intros; go_simp; rfl)
                refine Og.step_pure (fun _ => Below.refl _ _) ?_; apply Exists.intro; refine And.intro ?_ ?_; focus (intro vs w2 hC hk; revert hk; simp only [Og.KS, Og.K0, Og.Is, List.getD_cons_zero, List.getD_cons_succ, List.getD_nil, List.contains_cons, List.contains_nil, Nat.reduceAdd, Nat.reduceBEq, Bool.or_false, Bool.false_or, Bool.or_true, Bool.true_or, Bool.false_eq_true, false_implies, true_implies, true_and, and_true, forall_const]; intros; go_simp; rfl)
                refine Og.step_pure (fun _ => Below.refl _ _) ?_; apply Exists.intro; refine And.intro ?_ ?_; focus (intro vs w2 hC hk; revert hk; simp only [Og.KS, Og.K0, Og.Is, List.getD_cons_zero, List.getD_cons_succ, List.getD_nil, List.contains_cons, List.contains_nil, Nat.reduceAdd, Nat.reduceBEq, Bool.or_false, Bool.false_or, Bool.or_true, Bool.true_or, Bool.false_eq_true, false_implies, true_implies, true_and, and_true, forall_const]; intros; go_simp; rfl)
                refine Og.step_pure (fun _ => Below.refl _ _) ?_; apply Exists.intro; refine And.intro ?_ ?_; focus (intro vs w2 hC hk; revert hk; simp only [Og.KS, Og.K0, Og.Is, List.getD_cons_zero, List.getD_cons_succ, List.getD_nil, List.contains_cons, List.contains_nil, Nat.reduceAdd, Nat.reduceBEq, Bool.or_false, Bool.false_or, Bool.or_true, Bool.true_or, Bool.false_eq_true, false_implies, true_implies, true_and, and_true, forall_const]; intros; go_simp; rfl)
                refine Og.step_pure (fun _ => Below.refl _ _) ?_; apply Exists.intro; refine And.intro ?_ ?_; focus (intro vs w2 hC hk; revert hk; simp only [Og.KS, Og.K0, Og.Is, List.getD_cons_zero, List.getD_cons_succ, List.getD_nil, List.contains_cons, List.contains_nil, Nat.reduceAdd, Nat.reduceBEq, Bool.or_false, Bool.false_or, Bool.or_true, Bool.true_or, Bool.false_eq_true, false_implies, true_implies, true_and, and_true, forall_const]; intros; go_simp; rfl)
                refine Og.step_pure (fun _ => Below.refl _ _) ?_; apply Exists.intro; refine And.intro ?_ ?_; focus (intro vs w2 hC hk; revert hk; simp only [Og.KS, Og.K0, Og.Is, List.getD_cons_zero, List.getD_cons_succ, List.getD_nil, List.contains_cons, List.contains_nil, Nat.reduceAdd, Nat.reduceBEq, Bool.or_false, Bool.false_or, Bool.or_true, Bool.true_or, Bool.false_eq_true, false_implies, true_implies, true_and, and_true, forall_const]; intros; go_simp; rfl)
                refine Og.step_pure (fun _ => Below.refl _ _) ?_; apply Exists.intro; refine And.intro ?_ ?_; focus (intro vs w2 hC hk; revert hk; simp only [Og.KS, Og.K0, Og.Is, List.getD_cons_zero, List.getD_cons_succ, List.getD_nil, List.contains_cons, List.contains_nil, Nat.reduceAdd, Nat.reduceBEq, Bool.or_false, Bool.false_or, Bool.or_true, Bool.true_or, Bool.false_eq_true, false_implies, true_implies, true_and, and_true, forall_const]; intros; go_simp; rfl)
                refine Og.step_pure (fun _ => Below.refl _ _) ?_; apply Exists.intro; refine And.intro ?_ ?_; focus (intro vs w2 hC hk; revert hk; simp only [Og.KS, Og.K0, Og.Is, List.getD_cons_zero, List.getD_cons_succ, List.getD_nil, List.contains_cons, List.contains_nil, Nat.reduceAdd, Nat.reduceBEq, Bool.or_false, Bool.false_or, Bool.or_true, Bool.true_or, Bool.false_eq_true, false_implies, true_implies, true_and, and_true, forall_const]; intros; go_simp; rfl)
                refine Og.step_pure (fun _ => Below.refl _ _) ?_; apply Exists.intro; refine And.intro ?_ ?_; focus (intro vs w2 hC hk; revert hk; simp only [Og.KS, Og.K0, Og.Is, List.getD_cons_zero, List.getD_cons_succ, List.getD_nil, List.contains_cons, List.contains_nil, Nat.reduceAdd, Nat.reduceBEq, Bool.or_false, Bool.false_or, Bool.or_true, Bool.true_or, Bool.false_eq_true, false_implies, true_implies, true_and, and_true, forall_const]; intros; go_simp; rfl)
                refine Og.step_pure (fun _ => Below.refl _ _) ?_; apply Exists.intro; refine And.intro ?_ ?_; focus (intro vs w2 hC hk; revert hk; simp only [Og.KS, Og.K0, Og.Is, List.getD_cons_zero, List.getD_cons_succ, List.getD_nil, List.contains_cons, List.contains_nil, Nat.reduceAdd, Nat.reduceBEq, Bool.or_false, Bool.false_or, Bool.or_true, Bool.true_or, Bool.false_eq_true, false_implies, true_implies, true_and, and_true, forall_const]; intros; go_simp; rfl)
                refine Og.step_pure (fun _ => Below.refl _ _) ?_; apply Exists.intro; refine And.intro ?_ ?_; focus (intro vs w2 hC hk; revert hk; simp only [Og.KS, Og.K0, Og.Is, List.getD_cons_zero, List.getD_cons_succ, List.getD_nil, List.contains_cons, List.contains_nil, Nat.reduceAdd, Nat.reduceBEq, Bool.or_false, Bool.false_or, Bool.or_true, Bool.true_or, Bool.false_eq_true, false_implies, true_implies, true_and, and_true, forall_const]; intros; go_simp; rfl)
                refine Og.step_pure (fun _ => Below.refl _ _) ?_; apply Exists.intro; refine And.intro ?_ ?_; focus (intro vs w2 hC hk; revert hk; simp only [Og.KS, Og.K0, Og.Is, List.getD_cons_zero, List.getD_cons_succ, List.getD_nil, List.contains_cons, List.contains_nil, Nat.reduceAdd, Nat.reduceBEq, Bool.or_false, Bool.false_or, Bool.or_true, Bool.true_or, Bool.false_eq_true, false_implies, true_implies, true_and, and_true, forall_const]; intros; go_simp; rfl)
                intro vs w2 hC hk
                simp only [Og.KS, Og.K0, Og.Is, List.getD_cons_zero, List.getD_cons_succ, List.getD_nil, List.contains_cons, List.contains_nil, Nat.reduceAdd, Nat.reduceBEq, Bool.or_false, Bool.false_or, Bool.or_true, Bool.true_or, Bool.false_eq_true, false_implies, true_implies, true_and, and_true, forall_const] at hk
                simp only [hk, Act.put, List.setIfInBounds_toArray, List.set_cons_zero, List.set_cons_succ]
                clear hk
                have B2 := Lib.hid (bthen' BQ.out BQ.out.size hC)
                have HO2 := Lib.hid (own_below HOQ.out hC)
                have HAY2 := Lib.hid (HAY.out.belowW BQ.out hC)
                clear hC BQ HOQ
                go_wp2_with (refine wpList_loadC rfl (.tmp 117) rfl rfl HAY2.out ?_)
                refine Calls.mono (HP.out w2) ?_
                rintro e w3 ⟨rfl, hb3⟩
                have B3 := Lib.hid (bthen' B2.out B2.out.size hb3)
                have HO3 := Lib.hid (own_below HO2.out hb3)
                clear hb3
                go_wp2_with (at_builtin; refine wpList_appC rfl (.tmp 115) (.tmp 120) rfl (base := w.heap.size) (B := 0) (v := u8) (xs := pre) (ys := [plC y]) rfl rfl (HO3.out.alloc _) (SlC_one (c := plC y) (heap_at rfl) (Nat.zero_le _)) (by have := hlen.out; simp; omega) (by have := B3.out.size; simp; omega) ?_; intro v1 w4 hown4 hgrow4; have HO4 := Lib.hid hown4; have B4 := Lib.hid ((B3.out.alloc B3.out.size _).grown hgrow4 (by have := B3.out.size; simp; omega) (fun j hj => (HO3.out.lt j hj).1)); clear hown4 hgrow4)
                all_goals
                  go_roundg (([] : List Ch).length + b.length)
                  case measure => first | omega | (simp only [List.length_cons, List.length_nil]; omega) | (simp <;> omega)
                  case rel => exact ⟨pre ++ [plC y], [], b, rfl, hf, Lib.hid (by rw [HNB.out]; exact SlW.tail (c := c2) (b := bb') (o := o') (x := y) (by omega) (by have := hs.out; rwa [List.length_cons] at this) (by intro hh; first | rfl | exact if_neg hh | exact absurd (by assumption) hh | exact absurd hh (by assumption))), Lib.hid (by rw [← hj.out, jn_y, jn_move]), HO4, B4, Lib.hid (by have := hlen.out; simp only [List.length_append, List.length_cons, List.length_nil] at this ⊢; omega)⟩
            | cons x a =>
              cases b with
              | nil =>
                obtain ⟨A1, c1, rfl, hr, hlox⟩ := hf.out
                obtain ⟨bb, o, rfl, hat⟩ := hr 0 x rfl
                rw [Nat.zero_mul, Nat.add_zero] at hat
                have HAX := Lib.hid hat
                obtain ⟨na, hna⟩ : ∃ n, n = a.length := ⟨_, rfl⟩
                have HNA := Lib.hid hna
                have hlna : na ≤ 283467841536 := by have := hlen.out; simp only [List.length_cons] at this; omega
                have h0na : ¬ ((na : Int) + 1 = 0) := by omega
                have h1na : (1 : Int) ≤ (na : Int) + 1 := by omega
                have h2na : (0 : Int) < (na : Int) + 1 := by omega
                have t0na : ((na : Int) + 1 == 0) = false := by simp; omega
                have h3na : na + 1 ≤ c1 := by rw [hna]; exact hlox
                simp only [List.length_cons] at ⊢
                rw [← hna]
                clear hr hat hna hlox
                obtain ⟨A2, c2, rfl, _, _⟩ := hs.out
                simp only [List.length_nil] at ⊢
                have HP : Hid (∀ w, Calls Try.prog 34 #[vC x] w fun e w' => e = .returned (.agg #[.int .i64 (plC x).k, .int .u32 (plC x).o.p.a, .int .i64 (plC x).o.p.l, .int .i64 (plC x).o.m, .int .u64 (plC x).o.o0, .int .u64 (plC x).o.o1, .int .u64 (plC x).o.h0, .int .u64 (plC x).o.h1, .int .u32 (plC x).n.p.a, .int .i64 (plC x).n.p.l, .int .i64 (plC x).n.m, .int .u64 (plC x).n.o0, .int .u64 (plC x).n.o1, .int .u64 (plC x).n.h0, .int .u64 (plC x).n.h1]) ∧ Below w.heap.size w w') := Lib.hid (fun w => plain_ok x w)
                go_wp2_with fail
                refine Og.walk_lit [[],[0],[1,0],[2,1,0],[3,2,1,0],[4,3,2,1,0],[5,3,4,2,1,0],[6,3,5,4,2,1,0],[7,6,3,5,4,2,1,0],[8,7,6,3,5,4,2,1,0],[9,7,8,6,3,5,4,2,1,0],[10,7,9,8,6,3,5,4,2,1,0],[7,6,3,5,4,2,1,0],[12,7,6,3,5,4,2,1,0],[13,7,12,6,3,5,4,2,1,0],[14,11,7,13,12,6,3,5,4,2,1,0,10,9,8],[11,15,7,10,9,8,6,3,5,4,2,1,0,14,13,12],[7,16,3,6,5,4,2,1,0,11,15,10,9,8,14,13,12],[3,17,2,1,0,7,16,6,5,4,11,15,10,9,8,14,13,12],[18,16,3,17,2,1,0,7,6,5,4,11,15,10,9,8,14,13,12]] (fun w2 => Below wr.heap.size wr w2) (fun w1 w2 => Below w1.heap.size w1 w2) (by kernel_rfl) (by kernel_rfl) (bdrew) ?_
                refine Og.step_pure (fun _ => Below.refl _ _) ?_; apply Exists.intro; refine And.intro ?_ ?_; focus (intro vs w2 hC hk; revert hk; simp only [Og.KS, Og.K0, Og.Is, List.getD_cons_zero, List.getD_cons_succ, List.getD_nil, List.contains_cons, List.contains_nil, Nat.reduceAdd, Nat.reduceBEq, Bool.or_false, Bool.false_or, Bool.or_true, Bool.true_or, Bool.false_eq_true, false_implies, true_implies, true_and, and_true, forall_const]; intros; go_simp; rfl)
                refine Og.step_pure (fun _ => Below.refl _ _) ?_; apply Exists.intro; refine And.intro ?_ ?_; focus (intro vs w2 hC hk; revert hk; simp only [Og.KS, Og.K0, Og.Is, List.getD_cons_zero, List.getD_cons_succ, List.getD_nil, List.contains_cons, List.contains_nil, Nat.reduceAdd, Nat.reduceBEq, Bool.or_false, Bool.false_or, Bool.or_true, Bool.true_or, Bool.false_eq_true, false_implies, true_implies, true_and, and_true, forall_const]; intros; go_simp; rfl)
                refine Og.step_pure (fun _ => Below.refl _ _) ?_; apply Exists.intro; refine And.intro ?_ ?_; focus (intro vs w2 hC hk; revert hk; simp only [Og.KS, Og.K0, Og.Is, List.getD_cons_zero, List.getD_cons_succ, List.getD_nil, List.contains_cons, List.contains_nil, Nat.reduceAdd, Nat.reduceBEq, Bool.or_false, Bool.false_or, Bool.or_true, Bool.true_or, Bool.false_eq_true, false_implies, true_implies, true_and, and_true, forall_const]; intros; go_simp; rfl)
                refine Og.step_pure (fun _ => Below.refl _ _) ?_; apply Exists.intro; refine And.intro ?_ ?_; focus (intro vs w2 hC hk; revert hk; simp only [Og.KS, Og.K0, Og.Is, List.getD_cons_zero, List.getD_cons_succ, List.getD_nil, List.contains_cons, List.contains_nil, Nat.reduceAdd, Nat.reduceBEq, Bool.or_false, Bool.false_or, Bool.or_true, Bool.true_or, Bool.false_eq_true, false_implies, true_implies, true_and, and_true, forall_const]; intros; go_simp; rfl)
                refine Og.step_pure (fun _ => Below.refl _ _) ?_; apply Exists.intro; refine And.intro ?_ ?_; focus (intro vs w2 hC hk; revert hk; simp only [Og.KS, Og.K0, Og.Is, List.getD_cons_zero, List.getD_cons_succ, List.getD_nil, List.contains_cons, List.contains_nil, Nat.reduceAdd, Nat.reduceBEq, Bool.or_false, Bool.false_or, Bool.or_true, Bool.true_or, Bool.false_eq_true, false_implies, true_implies, true_and, and_true, forall_const]; intros; go_simp; rfl)
                refine Og.step_pure (fun _ => Below.refl _ _) ?_; apply Exists.intro; refine And.intro ?_ ?_; focus (intro vs w2 hC hk; revert hk; simp only [Og.KS, Og.K0, Og.Is, List.getD_cons_zero, List.getD_cons_succ, List.getD_nil, List.contains_cons, List.contains_nil, Nat.reduceAdd, Nat.reduceBEq, Bool.or_false, Bool.false_or, Bool.or_true, Bool.true_or, Bool.false_eq_true, false_implies, true_implies, true_and, and_true, forall_const]; intros; go_simp; rfl)
                refine Og.step_pure (fun _ => Below.refl _ _) ?_; apply Exists.intro; refine And.intro ?_ ?_; focus (intro vs w2 hC hk; revert hk; simp only [Og.KS, Og.K0, Og.Is, List.getD_cons_zero, List.getD_cons_succ, List.getD_nil, List.contains_cons, List.contains_nil, Nat.reduceAdd, Nat.reduceBEq, Bool.or_false, Bool.false_or, Bool.or_true, Bool.true_or, Bool.false_eq_true, false_implies, true_implies, true_and, and_true, forall_const]; intros; go_simp; rfl)
                refine Og.step_pure (fun _ => Below.refl _ _) ?_; apply Exists.intro; refine And.intro ?_ ?_; focus (intro vs w2 hC hk; revert hk; simp only [Og.KS, Og.K0, Og.Is, List.getD_cons_zero, List.getD_cons_succ, List.getD_nil, List.contains_cons, List.contains_nil, Nat.reduceAdd, Nat.reduceBEq, Bool.or_false, Bool.false_or, Bool.or_true, Bool.true_or, Bool.false_eq_true, false_implies, true_implies, true_and, and_true, forall_const]; intros; go_simp; rfl)
                refine Og.step_pure (fun _ => Below.refl _ _) ?_; apply Exists.intro; refine And.intro ?_ ?_; focus (intro vs w2 hC hk; revert hk; simp only [Og.KS, Og.K0, Og.Is, List.getD_cons_zero, List.getD_cons_succ, List.getD_nil, List.contains_cons, List.contains_nil, Nat.reduceAdd, Nat.reduceBEq, Bool.or_false, Bool.false_or, Bool.or_true, Bool.true_or, Bool.false_eq_true, false_implies, true_implies, true_and, and_true, forall_const]; intros; go_simp; rfl)
                refine Og.step_pure (fun _ => Below.refl _ _) ?_; apply Exists.intro; refine And.intro ?_ ?_; focus (intro vs w2 hC hk; revert hk; simp only [Og.KS, Og.K0, Og.Is, List.getD_cons_zero, List.getD_cons_succ, List.getD_nil, List.contains_cons, List.contains_nil, Nat.reduceAdd, Nat.reduceBEq, Bool.or_false, Bool.false_or, Bool.or_true, Bool.true_or, Bool.false_eq_true, false_implies, true_implies, true_and, and_true, forall_const]; intros; go_simp; rfl)
                refine Og.step_pure (fun _ => Below.refl _ _) ?_; apply Exists.intro; refine And.intro ?_ ?_; focus (intro vs w2 hC hk; revert hk; simp only [Og.KS, Og.K0, Og.Is, List.getD_cons_zero, List.getD_cons_succ, List.getD_nil, List.contains_cons, List.contains_nil, Nat.reduceAdd, Nat.reduceBEq, Bool.or_false, Bool.false_or, Bool.or_true, Bool.true_or, Bool.false_eq_true, false_implies, true_implies, true_and, and_true, forall_const]; intros; go_simp; rfl)
                refine Og.step_pure (fun _ => Below.refl _ _) ?_; apply Exists.intro; refine And.intro ?_ ?_; focus (intro vs w2 hC hk; revert hk; simp only [Og.KS, Og.K0, Og.Is, List.getD_cons_zero, List.getD_cons_succ, List.getD_nil, List.contains_cons, List.contains_nil, Nat.reduceAdd, Nat.reduceBEq, Bool.or_false, Bool.false_or, Bool.or_true, Bool.true_or, Bool.false_eq_true, false_implies, true_implies, true_and, and_true, forall_const]; intros; go_simp; rfl)
                refine Og.step_pure (fun _ => Below.refl _ _) ?_; apply Exists.intro; refine And.intro ?_ ?_; focus (intro vs w2 hC hk; revert hk; simp only [Og.KS, Og.K0, Og.Is, List.getD_cons_zero, List.getD_cons_succ, List.getD_nil, List.contains_cons, List.contains_nil, Nat.reduceAdd, Nat.reduceBEq, Bool.or_false, Bool.false_or, Bool.or_true, Bool.true_or, Bool.false_eq_true, false_implies, true_implies, true_and, and_true, forall_const]; intros; go_simp; rfl)
                refine Og.step_pure (fun _ => Below.refl _ _) ?_; apply Exists.intro; refine And.intro ?_ ?_; focus (intro vs w2 hC hk; revert hk; simp only [Og.KS, Og.K0, Og.Is, List.getD_cons_zero, List.getD_cons_succ, List.getD_nil, List.contains_cons, List.contains_nil, Nat.reduceAdd, Nat.reduceBEq, Bool.or_false, Bool.false_or, Bool.or_true, Bool.true_or, Bool.false_eq_true, false_implies, true_implies, true_and, and_true, forall_const]; intros; go_simp; rfl)
                refine Og.step_pure (fun _ => Below.refl _ _) ?_; apply Exists.intro; refine And.intro ?_ ?_; focus (intro vs w2 hC hk; revert hk; simp only [Og.KS, Og.K0, Og.Is, List.getD_cons_zero, List.getD_cons_succ, List.getD_nil, List.contains_cons, List.contains_nil, Nat.reduceAdd, Nat.reduceBEq, Bool.or_false, Bool.false_or, Bool.or_true, Bool.true_or, Bool.false_eq_true, false_implies, true_implies, true_and, and_true, forall_const]; intros; go_simp; rfl)
                refine Og.step_pure (fun _ => Below.refl _ _) ?_; apply Exists.intro; refine And.intro ?_ ?_; focus (intro vs w2 hC hk; revert hk; simp only [Og.KS, Og.K0, Og.Is, List.getD_cons_zero, List.getD_cons_succ, List.getD_nil, List.contains_cons, List.contains_nil, Nat.reduceAdd, Nat.reduceBEq, Bool.or_false, Bool.false_or, Bool.or_true, Bool.true_or, Bool.false_eq_true, false_implies, true_implies, true_and, and_true, forall_const]; intros; go_simp; rfl)
                refine Og.step_pure (fun _ => Below.refl _ _) ?_; apply Exists.intro; refine And.intro ?_ ?_; focus (intro vs w2 hC hk; revert hk; simp only [Og.KS, Og.K0, Og.Is, List.getD_cons_zero, List.getD_cons_succ, List.getD_nil, List.contains_cons, List.contains_nil, Nat.reduceAdd, Nat.reduceBEq, Bool.or_false, Bool.false_or, Bool.or_true, Bool.true_or, Bool.false_eq_true, false_implies, true_implies, true_and, and_true, forall_const]; intros; go_simp; rfl)
                refine Og.step_pure (fun _ => Below.refl _ _) ?_; apply Exists.intro; refine And.intro ?_ ?_; focus (intro vs w2 hC hk; revert hk; simp only [Og.KS, Og.K0, Og.Is, List.getD_cons_zero, List.getD_cons_succ, List.getD_nil, List.contains_cons, List.contains_nil, Nat.reduceAdd, Nat.reduceBEq, Bool.or_false, Bool.false_or, Bool.or_true, Bool.true_or, Bool.false_eq_true, false_implies, true_implies, true_and, and_true, forall_const]; intros; go_simp; rfl)
                refine Og.step_pure (fun _ => Below.refl _ _) ?_; apply Exists.intro; refine And.intro ?_ ?_; focus (intro vs w2 hC hk; revert hk; simp only [Og.KS, Og.K0, Og.Is, List.getD_cons_zero, List.getD_cons_succ, List.getD_nil, List.contains_cons, List.contains_nil, Nat.reduceAdd, Nat.reduceBEq, Bool.or_false, Bool.false_or, Bool.or_true, Bool.true_or, Bool.false_eq_true, false_implies, true_implies, true_and, and_true, forall_const]; intros; go_simp; rfl)
                refine Og.step_pure (fun _ => Below.refl _ _) ?_; apply Exists.intro; refine And.intro ?_ ?_; focus (intro vs w2 hC hk; revert hk; simp only [Og.KS, Og.K0, Og.Is, List.getD_cons_zero, List.getD_cons_succ, List.getD_nil, List.contains_cons, List.contains_nil, Nat.reduceAdd, Nat.reduceBEq, Bool.or_false, Bool.false_or, Bool.or_true, Bool.true_or, Bool.false_eq_true, false_implies, true_implies, true_and, and_true, forall_const]; intros; go_simp; rfl)
                intro vs w2 hC hk
                simp only [Og.KS, Og.K0, Og.Is, List.getD_cons_zero, List.getD_cons_succ, List.getD_nil, List.contains_cons, List.contains_nil, Nat.reduceAdd, Nat.reduceBEq, Bool.or_false, Bool.false_or, Bool.or_true, Bool.true_or, Bool.false_eq_true, false_implies, true_implies, true_and, and_true, forall_const] at hk
                simp only [hk, Act.put, List.setIfInBounds_toArray, List.set_cons_zero, List.set_cons_succ]
                clear hk
                have B2 := Lib.hid (bthen' hbw.out hbw.out.size hC)
                have HO2 := Lib.hid (own_below hown.out hC)
                have HAX2 := Lib.hid (HAX.out.belowW hbw.out hC)
                clear hC hbw hown
                go_wp2_with (refine wpList_loadC rfl (.tmp 93) rfl rfl HAX2.out ?_)
                refine Calls.mono (HP.out w2) ?_
                rintro e w3 ⟨rfl, hb3⟩
                have B3 := Lib.hid (bthen' B2.out B2.out.size hb3)
                have HO3 := Lib.hid (own_below HO2.out hb3)
                clear hb3
                go_wp2_with (at_builtin; refine wpList_appC rfl (.tmp 91) (.tmp 96) rfl (base := w.heap.size) (B := 0) (v := u8) (xs := pre) (ys := [plC x]) rfl rfl (HO3.out.alloc _) (SlC_one (c := plC x) (heap_at rfl) (Nat.zero_le _)) (by have := hlen.out; simp; omega) (by have := B3.out.size; simp; omega) ?_; intro v1 w4 hown4 hgrow4; have HO4 := Lib.hid hown4; have B4 := Lib.hid ((B3.out.alloc B3.out.size _).grown hgrow4 (by have := B3.out.size; simp; omega) (fun j hj => (HO3.out.lt j hj).1)); clear hown4 hgrow4)
                all_goals
                  go_roundg (a.length + ([] : List Ch).length)
                  case measure => first | omega | (simp only [List.length_cons, List.length_nil]; omega) | (simp <;> omega)
                  case rel => exact ⟨pre ++ [plC x], a, [], rfl, Lib.hid (by rw [HNA.out]; exact SlW.tail (c := c1) (b := bb) (o := o) (x := x) (by omega) (by have := hf.out; rwa [List.length_cons] at this) (by intro hh; first | rfl | exact if_neg hh | exact absurd (by assumption) hh | exact absurd hh (by assumption))), hs, Lib.hid (by rw [← hj.out, jn_x, jn_move]), HO4, B4, Lib.hid (by have := hlen.out; simp only [List.length_append, List.length_cons, List.length_nil] at this ⊢; omega)⟩
              | cons y b =>
                obtain ⟨A1, c1, rfl, hr, hlox⟩ := hf.out
                obtain ⟨bb, o, rfl, hat⟩ := hr 0 x rfl
                rw [Nat.zero_mul, Nat.add_zero] at hat
                have HAX := Lib.hid hat
                obtain ⟨na, hna⟩ : ∃ n, n = a.length := ⟨_, rfl⟩
                have HNA := Lib.hid hna
                have hlna : na ≤ 283467841536 := by have := hlen.out; simp only [List.length_cons] at this; omega
                have h0na : ¬ ((na : Int) + 1 = 0) := by omega
                have h1na : (1 : Int) ≤ (na : Int) + 1 := by omega
                have h2na : (0 : Int) < (na : Int) + 1 := by omega
                have t0na : ((na : Int) + 1 == 0) = false := by simp; omega
                have h3na : na + 1 ≤ c1 := by rw [hna]; exact hlox
                simp only [List.length_cons] at ⊢
                rw [← hna]
                clear hr hat hna hlox
                obtain ⟨A2, c2, rfl, hr, hloy⟩ := hs.out
                obtain ⟨bb', o', rfl, hat⟩ := hr 0 y rfl
                rw [Nat.zero_mul, Nat.add_zero] at hat
                have HAY := Lib.hid hat
                obtain ⟨nb, hnb⟩ : ∃ n, n = b.length := ⟨_, rfl⟩
                have HNB := Lib.hid hnb
                have hlnb : nb ≤ 283467841536 := by have := hlen.out; simp only [List.length_cons] at this; omega
                have h0nb : ¬ ((nb : Int) + 1 = 0) := by omega
                have h1nb : (1 : Int) ≤ (nb : Int) + 1 := by omega
                have h2nb : (0 : Int) < (nb : Int) + 1 := by omega
                have t0nb : ((nb : Int) + 1 == 0) = false := by simp; omega
                have h3nb : nb + 1 ≤ c2 := by rw [hnb]; exact hloy
                simp only [List.length_cons] at ⊢
                rw [← hnb]
                clear hr hat hnb hloy
                have G1 : Hid (∀ w, Calls Try.prog 33 #[vC x] w fun e w' => e = .returned (.agg #[.int .u32 (atC x).a, .int .i64 (atC x).l]) ∧ Below w.heap.size w w') := Lib.hid (fun w => at_ok x w)
                have G2 : Hid (∀ w, Calls Try.prog 33 #[vC y] w fun e w' => e = .returned (.agg #[.int .u32 (atC y).a, .int .i64 (atC y).l]) ∧ Below w.heap.size w w') := Lib.hid (fun w => at_ok y w)
                have HCX : Hid (∀ w2, Below wr.heap.size wr w2 → AtC w2 bb o x) := Lib.hid (fun w2 h => HAX.out.belowW hbw.out h)
                have HCY : Hid (∀ w2, Below wr.heap.size wr w2 → AtC w2 bb' o' y) := Lib.hid (fun w2 h => HAY.out.belowW hbw.out h)
                cases hq1 : befP (atC x) (atC y) with
                | true =>
                  have HP : Hid (∀ w, Calls Try.prog 34 #[vC x] w fun e w' => e = .returned (.agg #[.int .i64 (plC x).k, .int .u32 (plC x).o.p.a, .int .i64 (plC x).o.p.l, .int .i64 (plC x).o.m, .int .u64 (plC x).o.o0, .int .u64 (plC x).o.o1, .int .u64 (plC x).o.h0, .int .u64 (plC x).o.h1, .int .u32 (plC x).n.p.a, .int .i64 (plC x).n.p.l, .int .i64 (plC x).n.m, .int .u64 (plC x).n.o0, .int .u64 (plC x).n.o1, .int .u64 (plC x).n.h0, .int .u64 (plC x).n.h1]) ∧ Below w.heap.size w w') := Lib.hid (fun w => plain_ok x w)
                  have G3 : Hid (∀ w, Calls Try.prog 26 #[.agg #[.int .u32 (atC x).a, .int .i64 (atC x).l], .agg #[.int .u32 (atC y).a, .int .i64 (atC y).l]] w fun e w' => e = .returned (.bool true) ∧ Below w.heap.size w w') := Lib.hid (fun w => by have := before_ok (atC x) (atC y) w; rwa [hq1] at this)
                  have HQ1 := Lib.hid hq1
                  clear hq1
                  go_wp2_with fail
                  refine Og.walk_lit [[],[0],[1,0],[2,1,0],[3,2,1,0],[4,3,2,1,0],[5,3,4,2,1,0],[6,3,5,4,2,1,0],[7,6,3,5,4,2,1,0],[8,7,6,3,5,4,2,1,0],[9,7,8,6,3,5,4,2,1,0],[10,7,9,8,6,3,5,4,2,1,0],[7,6,3,5,4,2,1,0],[12,7,6,3,5,4,2,1,0],[13,7,12,6,3,5,4,2,1,0],[14,11,7,13,12,6,3,5,4,2,1,0,10,9,8],[11,15,7,10,9,8,6,3,5,4,2,1,0,14,13,12],[7,16,3,6,5,4,2,1,0,11,15,10,9,8,14,13,12],[3,17,2,1,0,7,16,6,5,4,11,15,10,9,8,14,13,12],[18,16,3,17,2,1,0,7,6,5,4,11,15,10,9,8,14,13,12]] (fun w2 => Below wr.heap.size wr w2) (fun w1 w2 => Below w1.heap.size w1 w2) (by kernel_rfl) (by kernel_rfl) (bdrew) ?_
                  refine Og.step_pure (fun _ => Below.refl _ _) ?_; apply Exists.intro; refine And.intro ?_ ?_; focus (intro vs w2 hC hk; revert hk; simp only [Og.KS, Og.K0, Og.Is, List.getD_cons_zero, List.getD_cons_succ, List.getD_nil, List.contains_cons, List.contains_nil, Nat.reduceAdd, Nat.reduceBEq, Bool.or_false, Bool.false_or, Bool.or_true, Bool.true_or, Bool.false_eq_true, false_implies, true_implies, true_and, and_true, forall_const]; intros; go_simp; rfl)
                  refine Og.step_pure (fun _ => Below.refl _ _) ?_; apply Exists.intro; refine And.intro ?_ ?_; focus (intro vs w2 hC hk; revert hk; simp only [Og.KS, Og.K0, Og.Is, List.getD_cons_zero, List.getD_cons_succ, List.getD_nil, List.contains_cons, List.contains_nil, Nat.reduceAdd, Nat.reduceBEq, Bool.or_false, Bool.false_or, Bool.or_true, Bool.true_or, Bool.false_eq_true, false_implies, true_implies, true_and, and_true, forall_const]; intros; go_simp; rfl)
                  refine Og.step_pure (fun _ => Below.refl _ _) ?_; apply Exists.intro; refine And.intro ?_ ?_; focus (intro vs w2 hC hk; revert hk; simp only [Og.KS, Og.K0, Og.Is, List.getD_cons_zero, List.getD_cons_succ, List.getD_nil, List.contains_cons, List.contains_nil, Nat.reduceAdd, Nat.reduceBEq, Bool.or_false, Bool.false_or, Bool.or_true, Bool.true_or, Bool.false_eq_true, false_implies, true_implies, true_and, and_true, forall_const]; intros; go_simp; rfl)
                  refine Og.step_pure (fun _ => Below.refl _ _) ?_; apply Exists.intro; refine And.intro ?_ ?_; focus (intro vs w2 hC hk; revert hk; simp only [Og.KS, Og.K0, Og.Is, List.getD_cons_zero, List.getD_cons_succ, List.getD_nil, List.contains_cons, List.contains_nil, Nat.reduceAdd, Nat.reduceBEq, Bool.or_false, Bool.false_or, Bool.or_true, Bool.true_or, Bool.false_eq_true, false_implies, true_implies, true_and, and_true, forall_const]; intros; go_simp; rfl)
                  refine Og.step_pure (fun _ => Below.refl _ _) ?_; apply Exists.intro; refine And.intro ?_ ?_; focus (intro vs w2 hC hk; revert hk; simp only [Og.KS, Og.K0, Og.Is, List.getD_cons_zero, List.getD_cons_succ, List.getD_nil, List.contains_cons, List.contains_nil, Nat.reduceAdd, Nat.reduceBEq, Bool.or_false, Bool.false_or, Bool.or_true, Bool.true_or, Bool.false_eq_true, false_implies, true_implies, true_and, and_true, forall_const]; intros; go_simp; rfl)
                  refine Og.step_pure (fun _ => Below.refl _ _) ?_; apply Exists.intro; refine And.intro ?_ ?_; focus (intro vs w2 hC hk; revert hk; simp only [Og.KS, Og.K0, Og.Is, List.getD_cons_zero, List.getD_cons_succ, List.getD_nil, List.contains_cons, List.contains_nil, Nat.reduceAdd, Nat.reduceBEq, Bool.or_false, Bool.false_or, Bool.or_true, Bool.true_or, Bool.false_eq_true, false_implies, true_implies, true_and, and_true, forall_const]; intros; go_simp; rfl)
                  refine Og.step_pure (fun _ => Below.refl _ _) ?_; apply Exists.intro; refine And.intro ?_ ?_; focus (intro vs w2 hC hk; revert hk; simp only [Og.KS, Og.K0, Og.Is, List.getD_cons_zero, List.getD_cons_succ, List.getD_nil, List.contains_cons, List.contains_nil, Nat.reduceAdd, Nat.reduceBEq, Bool.or_false, Bool.false_or, Bool.or_true, Bool.true_or, Bool.false_eq_true, false_implies, true_implies, true_and, and_true, forall_const]; intros; go_simp; rfl)
                  refine Og.step_pure (fun _ => Below.refl _ _) ?_; apply Exists.intro; refine And.intro ?_ ?_; focus (intro vs w2 hC hk; revert hk; simp only [Og.KS, Og.K0, Og.Is, List.getD_cons_zero, List.getD_cons_succ, List.getD_nil, List.contains_cons, List.contains_nil, Nat.reduceAdd, Nat.reduceBEq, Bool.or_false, Bool.false_or, Bool.or_true, Bool.true_or, Bool.false_eq_true, false_implies, true_implies, true_and, and_true, forall_const]; intros; go_simp; rfl)
                  refine Og.step_pure (fun _ => Below.refl _ _) ?_; apply Exists.intro; refine And.intro ?_ ?_; focus (intro vs w2 hC hk; revert hk; simp only [Og.KS, Og.K0, Og.Is, List.getD_cons_zero, List.getD_cons_succ, List.getD_nil, List.contains_cons, List.contains_nil, Nat.reduceAdd, Nat.reduceBEq, Bool.or_false, Bool.false_or, Bool.or_true, Bool.true_or, Bool.false_eq_true, false_implies, true_implies, true_and, and_true, forall_const]; intros; go_simp; rfl)
                  refine Og.step_pure (fun _ => Below.refl _ _) ?_; apply Exists.intro; refine And.intro ?_ ?_; focus (intro vs w2 hC hk; revert hk; simp only [Og.KS, Og.K0, Og.Is, List.getD_cons_zero, List.getD_cons_succ, List.getD_nil, List.contains_cons, List.contains_nil, Nat.reduceAdd, Nat.reduceBEq, Bool.or_false, Bool.false_or, Bool.or_true, Bool.true_or, Bool.false_eq_true, false_implies, true_implies, true_and, and_true, forall_const]; intros; go_simp; rfl)
                  refine Og.step_pureB (fun _ => Below.refl _ _) ⟨vC x, ?_, ?_⟩; focus (intro vs w2 hC hk; simp only [Og.KS, Og.K0, Og.Is, List.getD_cons_zero, List.getD_cons_succ, List.getD_nil, List.contains_cons, List.contains_nil, Nat.reduceAdd, Nat.reduceBEq, Bool.or_false, Bool.false_or, Bool.or_true, Bool.true_or, Bool.false_eq_true, false_implies, true_implies, true_and, and_true, forall_const] at hk; refine optB_loadC ?_ rfl ?_ (HCX.out w2 hC) ⟨rfl, rfl⟩ <;> go_simp)
                  refine Og.step_one ?_; apply Exists.intro; refine And.intro ?_ ?_; focus (intro vs w2 hC hk; revert hk; simp only [Og.KS, Og.K0, Og.Is, List.getD_cons_zero, List.getD_cons_succ, List.getD_nil, List.contains_cons, List.contains_nil, Nat.reduceAdd, Nat.reduceBEq, Bool.or_false, Bool.false_or, Bool.or_true, Bool.true_or, Bool.false_eq_true, false_implies, true_implies, true_and, and_true, forall_const]; intros; go_simp; with_reducible refine (G1.out _).mono ?_; rintro e w3 ⟨rfl, hb⟩; exact Og.RetV.mk ⟨bthen hC hb, hb, rfl⟩)
                  refine Og.step_pure (fun _ => Below.refl _ _) ?_; apply Exists.intro; refine And.intro ?_ ?_; focus (intro vs w2 hC hk; revert hk; simp only [Og.KS, Og.K0, Og.Is, List.getD_cons_zero, List.getD_cons_succ, List.getD_nil, List.contains_cons, List.contains_nil, Nat.reduceAdd, Nat.reduceBEq, Bool.or_false, Bool.false_or, Bool.or_true, Bool.true_or, Bool.false_eq_true, false_implies, true_implies, true_and, and_true, forall_const]; intros; go_simp; rfl)
                  refine Og.step_pure (fun _ => Below.refl _ _) ?_; apply Exists.intro; refine And.intro ?_ ?_; focus (intro vs w2 hC hk; revert hk; simp only [Og.KS, Og.K0, Og.Is, List.getD_cons_zero, List.getD_cons_succ, List.getD_nil, List.contains_cons, List.contains_nil, Nat.reduceAdd, Nat.reduceBEq, Bool.or_false, Bool.false_or, Bool.or_true, Bool.true_or, Bool.false_eq_true, false_implies, true_implies, true_and, and_true, forall_const]; intros; go_simp; rfl)
                  refine Og.step_pureB (fun _ => Below.refl _ _) ⟨vC y, ?_, ?_⟩; focus (intro vs w2 hC hk; simp only [Og.KS, Og.K0, Og.Is, List.getD_cons_zero, List.getD_cons_succ, List.getD_nil, List.contains_cons, List.contains_nil, Nat.reduceAdd, Nat.reduceBEq, Bool.or_false, Bool.false_or, Bool.or_true, Bool.true_or, Bool.false_eq_true, false_implies, true_implies, true_and, and_true, forall_const] at hk; refine optB_loadC ?_ rfl ?_ (HCY.out w2 hC) ⟨rfl, rfl⟩ <;> go_simp)
                  refine Og.step_one ?_; apply Exists.intro; refine And.intro ?_ ?_; focus (intro vs w2 hC hk; revert hk; simp only [Og.KS, Og.K0, Og.Is, List.getD_cons_zero, List.getD_cons_succ, List.getD_nil, List.contains_cons, List.contains_nil, Nat.reduceAdd, Nat.reduceBEq, Bool.or_false, Bool.false_or, Bool.or_true, Bool.true_or, Bool.false_eq_true, false_implies, true_implies, true_and, and_true, forall_const]; intros; go_simp; with_reducible refine (G2.out _).mono ?_; rintro e w3 ⟨rfl, hb⟩; exact Og.RetV.mk ⟨bthen hC hb, hb, rfl⟩)
                  refine Og.step_one ?_; apply Exists.intro; refine And.intro ?_ ?_; focus (intro vs w2 hC hk; revert hk; simp only [Og.KS, Og.K0, Og.Is, List.getD_cons_zero, List.getD_cons_succ, List.getD_nil, List.contains_cons, List.contains_nil, Nat.reduceAdd, Nat.reduceBEq, Bool.or_false, Bool.false_or, Bool.or_true, Bool.true_or, Bool.false_eq_true, false_implies, true_implies, true_and, and_true, forall_const]; intros; go_simp; with_reducible refine (G3.out _).mono ?_; rintro e w3 ⟨rfl, hb⟩; exact Og.RetV.mk ⟨bthen hC hb, hb, rfl⟩)
                  refine Og.step_pure (fun _ => Below.refl _ _) ?_; apply Exists.intro; refine And.intro ?_ ?_; focus (intro vs w2 hC hk; revert hk; simp only [Og.KS, Og.K0, Og.Is, List.getD_cons_zero, List.getD_cons_succ, List.getD_nil, List.contains_cons, List.contains_nil, Nat.reduceAdd, Nat.reduceBEq, Bool.or_false, Bool.false_or, Bool.or_true, Bool.true_or, Bool.false_eq_true, false_implies, true_implies, true_and, and_true, forall_const]; intros; go_simp; rfl)
                  refine Og.step_pure (fun _ => Below.refl _ _) ?_; apply Exists.intro; refine And.intro ?_ ?_; focus (intro vs w2 hC hk; revert hk; simp only [Og.KS, Og.K0, Og.Is, List.getD_cons_zero, List.getD_cons_succ, List.getD_nil, List.contains_cons, List.contains_nil, Nat.reduceAdd, Nat.reduceBEq, Bool.or_false, Bool.false_or, Bool.or_true, Bool.true_or, Bool.false_eq_true, false_implies, true_implies, true_and, and_true, forall_const]; intros; go_simp; rfl)
                  refine Og.step_pure (fun _ => Below.refl _ _) ?_; apply Exists.intro; refine And.intro ?_ ?_; focus (intro vs w2 hC hk; revert hk; simp only [Og.KS, Og.K0, Og.Is, List.getD_cons_zero, List.getD_cons_succ, List.getD_nil, List.contains_cons, List.contains_nil, Nat.reduceAdd, Nat.reduceBEq, Bool.or_false, Bool.false_or, Bool.or_true, Bool.true_or, Bool.false_eq_true, false_implies, true_implies, true_and, and_true, forall_const]; intros; go_simp; rfl)
                  intro vs w2 hC hk
                  simp only [Og.KS, Og.K0, Og.Is, List.getD_cons_zero, List.getD_cons_succ, List.getD_nil, List.contains_cons, List.contains_nil, Nat.reduceAdd, Nat.reduceBEq, Bool.or_false, Bool.false_or, Bool.or_true, Bool.true_or, Bool.false_eq_true, false_implies, true_implies, true_and, and_true, forall_const] at hk
                  simp only [hk, Act.put, List.setIfInBounds_toArray, List.set_cons_zero, List.set_cons_succ]
                  clear hk
                  have B2 := Lib.hid (bthen' hbw.out hbw.out.size hC)
                  have HO2 := Lib.hid (own_below hown.out hC)
                  have HAX2 := Lib.hid (HAX.out.belowW hbw.out hC)
                  clear hC hbw hown
                  clear HCX HCY
                  go_wp2_with (refine wpList_loadC rfl (.tmp 93) rfl rfl HAX2.out ?_)
                  refine Calls.mono (HP.out w2) ?_
                  rintro e w3 ⟨rfl, hb3⟩
                  have B3 := Lib.hid (bthen' B2.out B2.out.size hb3)
                  have HO3 := Lib.hid (own_below HO2.out hb3)
                  clear hb3
                  go_wp2_with (at_builtin; refine wpList_appC rfl (.tmp 91) (.tmp 96) rfl (base := w.heap.size) (B := 0) (v := u8) (xs := pre) (ys := [plC x]) rfl rfl (HO3.out.alloc _) (SlC_one (c := plC x) (heap_at rfl) (Nat.zero_le _)) (by have := hlen.out; simp; omega) (by have := B3.out.size; simp; omega) ?_; intro v1 w4 hown4 hgrow4; have HO4 := Lib.hid hown4; have B4 := Lib.hid ((B3.out.alloc B3.out.size _).grown hgrow4 (by have := B3.out.size; simp; omega) (fun j hj => (HO3.out.lt j hj).1)); clear hown4 hgrow4)
                  all_goals
                    go_roundg (a.length + (y :: b).length)
                    case measure => first | omega | (simp only [List.length_cons, List.length_nil]; omega) | (simp <;> omega)
                    case rel => exact ⟨pre ++ [plC x], a, (y :: b), rfl, Lib.hid (by rw [HNA.out]; exact SlW.tail (c := c1) (b := bb) (o := o) (x := x) (by omega) (by have := hf.out; rwa [List.length_cons] at this) (by intro hh; first | rfl | exact if_neg hh | exact absurd (by assumption) hh | exact absurd hh (by assumption))), Lib.hid (by rw [HNB.out]; have := hs.out; rwa [List.length_cons] at this), Lib.hid (by rw [← hj.out, jn_lt HQ1.out, jn_move]), HO4, B4, Lib.hid (by have := hlen.out; simp only [List.length_append, List.length_cons, List.length_nil] at this ⊢; omega)⟩
                | false =>
                  have G3 : Hid (∀ w, Calls Try.prog 26 #[.agg #[.int .u32 (atC x).a, .int .i64 (atC x).l], .agg #[.int .u32 (atC y).a, .int .i64 (atC y).l]] w fun e w' => e = .returned (.bool false) ∧ Below w.heap.size w w') := Lib.hid (fun w => by have := before_ok (atC x) (atC y) w; rwa [hq1] at this)
                  have HQ1 := Lib.hid hq1
                  clear hq1
                  go_wp2_with fail
                  refine Og.walk_lit [[],[0],[1,0],[2,1,0],[3,2,1,0],[4,3,2,1,0],[5,3,4,2,1,0],[6,3,5,4,2,1,0],[7,6,3,5,4,2,1,0],[8,7,6,3,5,4,2,1,0],[9,7,8,6,3,5,4,2,1,0],[10,7,9,8,6,3,5,4,2,1,0],[7,6,3,5,4,2,1,0],[12,7,6,3,5,4,2,1,0],[13,7,12,6,3,5,4,2,1,0],[14,11,7,13,12,6,3,5,4,2,1,0,10,9,8],[11,15,7,10,9,8,6,3,5,4,2,1,0,14,13,12],[7,16,3,6,5,4,2,1,0,11,15,10,9,8,14,13,12],[3,17,2,1,0,7,16,6,5,4,11,15,10,9,8,14,13,12],[18,16,3,17,2,1,0,7,6,5,4,11,15,10,9,8,14,13,12]] (fun w2 => Below wr.heap.size wr w2) (fun w1 w2 => Below w1.heap.size w1 w2) (by kernel_rfl) (by kernel_rfl) (bdrew) ?_
                  refine Og.step_pure (fun _ => Below.refl _ _) ?_; apply Exists.intro; refine And.intro ?_ ?_; focus (intro vs w2 hC hk; revert hk; simp only [Og.KS, Og.K0, Og.Is, List.getD_cons_zero, List.getD_cons_succ, List.getD_nil, List.contains_cons, List.contains_nil, Nat.reduceAdd, Nat.reduceBEq, Bool.or_false, Bool.false_or, Bool.or_true, Bool.true_or, Bool.false_eq_true, false_implies, true_implies, true_and, and_true, forall_const]; intros; go_simp; rfl)
                  refine Og.step_pure (fun _ => Below.refl _ _) ?_; apply Exists.intro; refine And.intro ?_ ?_; focus (intro vs w2 hC hk; revert hk; simp only [Og.KS, Og.K0, Og.Is, List.getD_cons_zero, List.getD_cons_succ, List.getD_nil, List.contains_cons, List.contains_nil, Nat.reduceAdd, Nat.reduceBEq, Bool.or_false, Bool.false_or, Bool.or_true, Bool.true_or, Bool.false_eq_true, false_implies, true_implies, true_and, and_true, forall_const]; intros; go_simp; rfl)
                  refine Og.step_pure (fun _ => Below.refl _ _) ?_; apply Exists.intro; refine And.intro ?_ ?_; focus (intro vs w2 hC hk; revert hk; simp only [Og.KS, Og.K0, Og.Is, List.getD_cons_zero, List.getD_cons_succ, List.getD_nil, List.contains_cons, List.contains_nil, Nat.reduceAdd, Nat.reduceBEq, Bool.or_false, Bool.false_or, Bool.or_true, Bool.true_or, Bool.false_eq_true, false_implies, true_implies, true_and, and_true, forall_const]; intros; go_simp; rfl)
                  refine Og.step_pure (fun _ => Below.refl _ _) ?_; apply Exists.intro; refine And.intro ?_ ?_; focus (intro vs w2 hC hk; revert hk; simp only [Og.KS, Og.K0, Og.Is, List.getD_cons_zero, List.getD_cons_succ, List.getD_nil, List.contains_cons, List.contains_nil, Nat.reduceAdd, Nat.reduceBEq, Bool.or_false, Bool.false_or, Bool.or_true, Bool.true_or, Bool.false_eq_true, false_implies, true_implies, true_and, and_true, forall_const]; intros; go_simp; rfl)
                  refine Og.step_pure (fun _ => Below.refl _ _) ?_; apply Exists.intro; refine And.intro ?_ ?_; focus (intro vs w2 hC hk; revert hk; simp only [Og.KS, Og.K0, Og.Is, List.getD_cons_zero, List.getD_cons_succ, List.getD_nil, List.contains_cons, List.contains_nil, Nat.reduceAdd, Nat.reduceBEq, Bool.or_false, Bool.false_or, Bool.or_true, Bool.true_or, Bool.false_eq_true, false_implies, true_implies, true_and, and_true, forall_const]; intros; go_simp; rfl)
                  refine Og.step_pure (fun _ => Below.refl _ _) ?_; apply Exists.intro; refine And.intro ?_ ?_; focus (intro vs w2 hC hk; revert hk; simp only [Og.KS, Og.K0, Og.Is, List.getD_cons_zero, List.getD_cons_succ, List.getD_nil, List.contains_cons, List.contains_nil, Nat.reduceAdd, Nat.reduceBEq, Bool.or_false, Bool.false_or, Bool.or_true, Bool.true_or, Bool.false_eq_true, false_implies, true_implies, true_and, and_true, forall_const]; intros; go_simp; rfl)
                  refine Og.step_pure (fun _ => Below.refl _ _) ?_; apply Exists.intro; refine And.intro ?_ ?_; focus (intro vs w2 hC hk; revert hk; simp only [Og.KS, Og.K0, Og.Is, List.getD_cons_zero, List.getD_cons_succ, List.getD_nil, List.contains_cons, List.contains_nil, Nat.reduceAdd, Nat.reduceBEq, Bool.or_false, Bool.false_or, Bool.or_true, Bool.true_or, Bool.false_eq_true, false_implies, true_implies, true_and, and_true, forall_const]; intros; go_simp; rfl)
                  refine Og.step_pure (fun _ => Below.refl _ _) ?_; apply Exists.intro; refine And.intro ?_ ?_; focus (intro vs w2 hC hk; revert hk; simp only [Og.KS, Og.K0, Og.Is, List.getD_cons_zero, List.getD_cons_succ, List.getD_nil, List.contains_cons, List.contains_nil, Nat.reduceAdd, Nat.reduceBEq, Bool.or_false, Bool.false_or, Bool.or_true, Bool.true_or, Bool.false_eq_true, false_implies, true_implies, true_and, and_true, forall_const]; intros; go_simp; rfl)
                  refine Og.step_pure (fun _ => Below.refl _ _) ?_; apply Exists.intro; refine And.intro ?_ ?_; focus (intro vs w2 hC hk; revert hk; simp only [Og.KS, Og.K0, Og.Is, List.getD_cons_zero, List.getD_cons_succ, List.getD_nil, List.contains_cons, List.contains_nil, Nat.reduceAdd, Nat.reduceBEq, Bool.or_false, Bool.false_or, Bool.or_true, Bool.true_or, Bool.false_eq_true, false_implies, true_implies, true_and, and_true, forall_const]; intros; go_simp; rfl)
                  refine Og.step_pure (fun _ => Below.refl _ _) ?_; apply Exists.intro; refine And.intro ?_ ?_; focus (intro vs w2 hC hk; revert hk; simp only [Og.KS, Og.K0, Og.Is, List.getD_cons_zero, List.getD_cons_succ, List.getD_nil, List.contains_cons, List.contains_nil, Nat.reduceAdd, Nat.reduceBEq, Bool.or_false, Bool.false_or, Bool.or_true, Bool.true_or, Bool.false_eq_true, false_implies, true_implies, true_and, and_true, forall_const]; intros; go_simp; rfl)
                  refine Og.step_pureB (fun _ => Below.refl _ _) ⟨vC x, ?_, ?_⟩; focus (intro vs w2 hC hk; simp only [Og.KS, Og.K0, Og.Is, List.getD_cons_zero, List.getD_cons_succ, List.getD_nil, List.contains_cons, List.contains_nil, Nat.reduceAdd, Nat.reduceBEq, Bool.or_false, Bool.false_or, Bool.or_true, Bool.true_or, Bool.false_eq_true, false_implies, true_implies, true_and, and_true, forall_const] at hk; refine optB_loadC ?_ rfl ?_ (HCX.out w2 hC) ⟨rfl, rfl⟩ <;> go_simp)
                  refine Og.step_one ?_; apply Exists.intro; refine And.intro ?_ ?_; focus (intro vs w2 hC hk; revert hk; simp only [Og.KS, Og.K0, Og.Is, List.getD_cons_zero, List.getD_cons_succ, List.getD_nil, List.contains_cons, List.contains_nil, Nat.reduceAdd, Nat.reduceBEq, Bool.or_false, Bool.false_or, Bool.or_true, Bool.true_or, Bool.false_eq_true, false_implies, true_implies, true_and, and_true, forall_const]; intros; go_simp; with_reducible refine (G1.out _).mono ?_; rintro e w3 ⟨rfl, hb⟩; exact Og.RetV.mk ⟨bthen hC hb, hb, rfl⟩)
                  refine Og.step_pure (fun _ => Below.refl _ _) ?_; apply Exists.intro; refine And.intro ?_ ?_; focus (intro vs w2 hC hk; revert hk; simp only [Og.KS, Og.K0, Og.Is, List.getD_cons_zero, List.getD_cons_succ, List.getD_nil, List.contains_cons, List.contains_nil, Nat.reduceAdd, Nat.reduceBEq, Bool.or_false, Bool.false_or, Bool.or_true, Bool.true_or, Bool.false_eq_true, false_implies, true_implies, true_and, and_true, forall_const]; intros; go_simp; rfl)
                  refine Og.step_pure (fun _ => Below.refl _ _) ?_; apply Exists.intro; refine And.intro ?_ ?_; focus (intro vs w2 hC hk; revert hk; simp only [Og.KS, Og.K0, Og.Is, List.getD_cons_zero, List.getD_cons_succ, List.getD_nil, List.contains_cons, List.contains_nil, Nat.reduceAdd, Nat.reduceBEq, Bool.or_false, Bool.false_or, Bool.or_true, Bool.true_or, Bool.false_eq_true, false_implies, true_implies, true_and, and_true, forall_const]; intros; go_simp; rfl)
                  refine Og.step_pureB (fun _ => Below.refl _ _) ⟨vC y, ?_, ?_⟩; focus (intro vs w2 hC hk; simp only [Og.KS, Og.K0, Og.Is, List.getD_cons_zero, List.getD_cons_succ, List.getD_nil, List.contains_cons, List.contains_nil, Nat.reduceAdd, Nat.reduceBEq, Bool.or_false, Bool.false_or, Bool.or_true, Bool.true_or, Bool.false_eq_true, false_implies, true_implies, true_and, and_true, forall_const] at hk; refine optB_loadC ?_ rfl ?_ (HCY.out w2 hC) ⟨rfl, rfl⟩ <;> go_simp)
                  refine Og.step_one ?_; apply Exists.intro; refine And.intro ?_ ?_; focus (intro vs w2 hC hk; revert hk; simp only [Og.KS, Og.K0, Og.Is, List.getD_cons_zero, List.getD_cons_succ, List.getD_nil, List.contains_cons, List.contains_nil, Nat.reduceAdd, Nat.reduceBEq, Bool.or_false, Bool.false_or, Bool.or_true, Bool.true_or, Bool.false_eq_true, false_implies, true_implies, true_and, and_true, forall_const]; intros; go_simp; with_reducible refine (G2.out _).mono ?_; rintro e w3 ⟨rfl, hb⟩; exact Og.RetV.mk ⟨bthen hC hb, hb, rfl⟩)
                  refine Og.step_one ?_; apply Exists.intro; refine And.intro ?_ ?_; focus (intro vs w2 hC hk; revert hk; simp only [Og.KS, Og.K0, Og.Is, List.getD_cons_zero, List.getD_cons_succ, List.getD_nil, List.contains_cons, List.contains_nil, Nat.reduceAdd, Nat.reduceBEq, Bool.or_false, Bool.false_or, Bool.or_true, Bool.true_or, Bool.false_eq_true, false_implies, true_implies, true_and, and_true, forall_const]; intros; go_simp; with_reducible refine (G3.out _).mono ?_; rintro e w3 ⟨rfl, hb⟩; exact Og.RetV.mk ⟨bthen hC hb, hb, rfl⟩)
                  refine Og.step_pure (fun _ => Below.refl _ _) ?_; apply Exists.intro; refine And.intro ?_ ?_; focus (intro vs w2 hC hk; revert hk; simp only [Og.KS, Og.K0, Og.Is, List.getD_cons_zero, List.getD_cons_succ, List.getD_nil, List.contains_cons, List.contains_nil, Nat.reduceAdd, Nat.reduceBEq, Bool.or_false, Bool.false_or, Bool.or_true, Bool.true_or, Bool.false_eq_true, false_implies, true_implies, true_and, and_true, forall_const]; intros; go_simp; rfl)
                  refine Og.step_pure (fun _ => Below.refl _ _) ?_; apply Exists.intro; refine And.intro ?_ ?_; focus (intro vs w2 hC hk; revert hk; simp only [Og.KS, Og.K0, Og.Is, List.getD_cons_zero, List.getD_cons_succ, List.getD_nil, List.contains_cons, List.contains_nil, Nat.reduceAdd, Nat.reduceBEq, Bool.or_false, Bool.false_or, Bool.or_true, Bool.true_or, Bool.false_eq_true, false_implies, true_implies, true_and, and_true, forall_const]; intros; go_simp; rfl)
                  refine Og.step_pure (fun _ => Below.refl _ _) ?_; apply Exists.intro; refine And.intro ?_ ?_; focus (intro vs w2 hC hk; revert hk; simp only [Og.KS, Og.K0, Og.Is, List.getD_cons_zero, List.getD_cons_succ, List.getD_nil, List.contains_cons, List.contains_nil, Nat.reduceAdd, Nat.reduceBEq, Bool.or_false, Bool.false_or, Bool.or_true, Bool.true_or, Bool.false_eq_true, false_implies, true_implies, true_and, and_true, forall_const]; intros; go_simp; rfl)
                  intro vs w2 hC hk
                  simp only [Og.KS, Og.K0, Og.Is, List.getD_cons_zero, List.getD_cons_succ, List.getD_nil, List.contains_cons, List.contains_nil, Nat.reduceAdd, Nat.reduceBEq, Bool.or_false, Bool.false_or, Bool.or_true, Bool.true_or, Bool.false_eq_true, false_implies, true_implies, true_and, and_true, forall_const] at hk
                  simp only [hk, Act.put, List.setIfInBounds_toArray, List.set_cons_zero, List.set_cons_succ]
                  clear hk
                  have BQ := Lib.hid (bthen' hbw.out hbw.out.size hC)
                  have HOQ := Lib.hid (own_below hown.out hC)
                  clear hC hbw hown
                  obtain ⟨wq, rfl⟩ : ∃ wq : World, wq = w2 := ⟨_, rfl⟩
                  clear HCX HCY
                  have HDX : Hid (∀ w2, Below wq.heap.size wq w2 → AtC w2 bb o x) := Lib.hid (fun w2 h => HAX.out.belowW BQ.out h)
                  have HDY : Hid (∀ w2, Below wq.heap.size wq w2 → AtC w2 bb' o' y) := Lib.hid (fun w2 h => HAY.out.belowW BQ.out h)
                  cases hq2 : befP (atC y) (atC x) with
                  | true =>
                    have HP : Hid (∀ w, Calls Try.prog 34 #[vC y] w fun e w' => e = .returned (.agg #[.int .i64 (plC y).k, .int .u32 (plC y).o.p.a, .int .i64 (plC y).o.p.l, .int .i64 (plC y).o.m, .int .u64 (plC y).o.o0, .int .u64 (plC y).o.o1, .int .u64 (plC y).o.h0, .int .u64 (plC y).o.h1, .int .u32 (plC y).n.p.a, .int .i64 (plC y).n.p.l, .int .i64 (plC y).n.m, .int .u64 (plC y).n.o0, .int .u64 (plC y).n.o1, .int .u64 (plC y).n.h0, .int .u64 (plC y).n.h1]) ∧ Below w.heap.size w w') := Lib.hid (fun w => plain_ok y w)
                    have G4 : Hid (∀ w, Calls Try.prog 26 #[.agg #[.int .u32 (atC y).a, .int .i64 (atC y).l], .agg #[.int .u32 (atC x).a, .int .i64 (atC x).l]] w fun e w' => e = .returned (.bool true) ∧ Below w.heap.size w w') := Lib.hid (fun w => by have := before_ok (atC y) (atC x) w; rwa [hq2] at this)
                    have HQ2 := Lib.hid hq2
                    clear hq2
                    go_wp2_with fail
                    refine Og.walk_lit [[],[0],[1,0],[2,1,0],[3,2,1,0],[4,3,2,1,0],[5,3,4,2,1,0],[6,3,5,4,2,1,0],[3,2,1,0],[8,3,2,1,0],[9,3,8,2,1,0],[10,7,3,9,8,2,1,0,6,5,4],[7,11,3,6,5,4,2,1,0,10,9,8],[3,12,2,1,0,7,11,6,5,4,10,9,8],[13,12,3,2,1,0,7,11,6,5,4,10,9,8]] (fun w2 => Below wq.heap.size wq w2) (fun w1 w2 => Below w1.heap.size w1 w2) (by kernel_rfl) (by kernel_rfl) (bdrew) ?_
                    refine Og.step_pure (fun _ => Below.refl _ _) ?_; apply Exists.intro; refine And.intro ?_ ?_; focus (intro vs w2 hC hk; revert hk; simp only [Og.KS, Og.K0, Og.Is, List.getD_cons_zero, List.getD_cons_succ, List.getD_nil, List.contains_cons, List.contains_nil, Nat.reduceAdd, Nat.reduceBEq, Bool.or_false, Bool.false_or, Bool.or_true, Bool.true_or, Bool.false_eq_true, false_implies, true_implies, true_and, and_true, forall_const]; intros; go_simp; rfl)
                    refine Og.step_pure (fun _ => Below.refl _ _) ?_; apply Exists.intro; refine And.intro ?_ ?_; focus (intro vs w2 hC hk; revert hk; simp only [Og.KS, Og.K0, Og.Is, List.getD_cons_zero, List.getD_cons_succ, List.getD_nil, List.contains_cons, List.contains_nil, Nat.reduceAdd, Nat.reduceBEq, Bool.or_false, Bool.false_or, Bool.or_true, Bool.true_or, Bool.false_eq_true, false_implies, true_implies, true_and, and_true, forall_const]; intros; go_simp; rfl)
                    refine Og.step_pure (fun _ => Below.refl _ _) ?_; apply Exists.intro; refine And.intro ?_ ?_; focus (intro vs w2 hC hk; revert hk; simp only [Og.KS, Og.K0, Og.Is, List.getD_cons_zero, List.getD_cons_succ, List.getD_nil, List.contains_cons, List.contains_nil, Nat.reduceAdd, Nat.reduceBEq, Bool.or_false, Bool.false_or, Bool.or_true, Bool.true_or, Bool.false_eq_true, false_implies, true_implies, true_and, and_true, forall_const]; intros; go_simp; rfl)
                    refine Og.step_pure (fun _ => Below.refl _ _) ?_; apply Exists.intro; refine And.intro ?_ ?_; focus (intro vs w2 hC hk; revert hk; simp only [Og.KS, Og.K0, Og.Is, List.getD_cons_zero, List.getD_cons_succ, List.getD_nil, List.contains_cons, List.contains_nil, Nat.reduceAdd, Nat.reduceBEq, Bool.or_false, Bool.false_or, Bool.or_true, Bool.true_or, Bool.false_eq_true, false_implies, true_implies, true_and, and_true, forall_const]; intros; go_simp; rfl)
                    refine Og.step_pure (fun _ => Below.refl _ _) ?_; apply Exists.intro; refine And.intro ?_ ?_; focus (intro vs w2 hC hk; revert hk; simp only [Og.KS, Og.K0, Og.Is, List.getD_cons_zero, List.getD_cons_succ, List.getD_nil, List.contains_cons, List.contains_nil, Nat.reduceAdd, Nat.reduceBEq, Bool.or_false, Bool.false_or, Bool.or_true, Bool.true_or, Bool.false_eq_true, false_implies, true_implies, true_and, and_true, forall_const]; intros; go_simp; rfl)
                    refine Og.step_pure (fun _ => Below.refl _ _) ?_; apply Exists.intro; refine And.intro ?_ ?_; focus (intro vs w2 hC hk; revert hk; simp only [Og.KS, Og.K0, Og.Is, List.getD_cons_zero, List.getD_cons_succ, List.getD_nil, List.contains_cons, List.contains_nil, Nat.reduceAdd, Nat.reduceBEq, Bool.or_false, Bool.false_or, Bool.or_true, Bool.true_or, Bool.false_eq_true, false_implies, true_implies, true_and, and_true, forall_const]; intros; go_simp; rfl)
                    refine Og.step_pureB (fun _ => Below.refl _ _) ⟨vC y, ?_, ?_⟩; focus (intro vs w2 hC hk; simp only [Og.KS, Og.K0, Og.Is, List.getD_cons_zero, List.getD_cons_succ, List.getD_nil, List.contains_cons, List.contains_nil, Nat.reduceAdd, Nat.reduceBEq, Bool.or_false, Bool.false_or, Bool.or_true, Bool.true_or, Bool.false_eq_true, false_implies, true_implies, true_and, and_true, forall_const] at hk; refine optB_loadC ?_ rfl ?_ (HDY.out w2 hC) ⟨rfl, rfl⟩ <;> go_simp)
                    refine Og.step_one ?_; apply Exists.intro; refine And.intro ?_ ?_; focus (intro vs w2 hC hk; revert hk; simp only [Og.KS, Og.K0, Og.Is, List.getD_cons_zero, List.getD_cons_succ, List.getD_nil, List.contains_cons, List.contains_nil, Nat.reduceAdd, Nat.reduceBEq, Bool.or_false, Bool.false_or, Bool.or_true, Bool.true_or, Bool.false_eq_true, false_implies, true_implies, true_and, and_true, forall_const]; intros; go_simp; with_reducible refine (G2.out _).mono ?_; rintro e w3 ⟨rfl, hb⟩; exact Og.RetV.mk ⟨bthen hC hb, hb, rfl⟩)
                    refine Og.step_pure (fun _ => Below.refl _ _) ?_; apply Exists.intro; refine And.intro ?_ ?_; focus (intro vs w2 hC hk; revert hk; simp only [Og.KS, Og.K0, Og.Is, List.getD_cons_zero, List.getD_cons_succ, List.getD_nil, List.contains_cons, List.contains_nil, Nat.reduceAdd, Nat.reduceBEq, Bool.or_false, Bool.false_or, Bool.or_true, Bool.true_or, Bool.false_eq_true, false_implies, true_implies, true_and, and_true, forall_const]; intros; go_simp; rfl)
                    refine Og.step_pure (fun _ => Below.refl _ _) ?_; apply Exists.intro; refine And.intro ?_ ?_; focus (intro vs w2 hC hk; revert hk; simp only [Og.KS, Og.K0, Og.Is, List.getD_cons_zero, List.getD_cons_succ, List.getD_nil, List.contains_cons, List.contains_nil, Nat.reduceAdd, Nat.reduceBEq, Bool.or_false, Bool.false_or, Bool.or_true, Bool.true_or, Bool.false_eq_true, false_implies, true_implies, true_and, and_true, forall_const]; intros; go_simp; rfl)
                    refine Og.step_pureB (fun _ => Below.refl _ _) ⟨vC x, ?_, ?_⟩; focus (intro vs w2 hC hk; simp only [Og.KS, Og.K0, Og.Is, List.getD_cons_zero, List.getD_cons_succ, List.getD_nil, List.contains_cons, List.contains_nil, Nat.reduceAdd, Nat.reduceBEq, Bool.or_false, Bool.false_or, Bool.or_true, Bool.true_or, Bool.false_eq_true, false_implies, true_implies, true_and, and_true, forall_const] at hk; refine optB_loadC ?_ rfl ?_ (HDX.out w2 hC) ⟨rfl, rfl⟩ <;> go_simp)
                    refine Og.step_one ?_; apply Exists.intro; refine And.intro ?_ ?_; focus (intro vs w2 hC hk; revert hk; simp only [Og.KS, Og.K0, Og.Is, List.getD_cons_zero, List.getD_cons_succ, List.getD_nil, List.contains_cons, List.contains_nil, Nat.reduceAdd, Nat.reduceBEq, Bool.or_false, Bool.false_or, Bool.or_true, Bool.true_or, Bool.false_eq_true, false_implies, true_implies, true_and, and_true, forall_const]; intros; go_simp; with_reducible refine (G1.out _).mono ?_; rintro e w3 ⟨rfl, hb⟩; exact Og.RetV.mk ⟨bthen hC hb, hb, rfl⟩)
                    refine Og.step_one ?_; apply Exists.intro; refine And.intro ?_ ?_; focus (intro vs w2 hC hk; revert hk; simp only [Og.KS, Og.K0, Og.Is, List.getD_cons_zero, List.getD_cons_succ, List.getD_nil, List.contains_cons, List.contains_nil, Nat.reduceAdd, Nat.reduceBEq, Bool.or_false, Bool.false_or, Bool.or_true, Bool.true_or, Bool.false_eq_true, false_implies, true_implies, true_and, and_true, forall_const]; intros; go_simp; with_reducible refine (G4.out _).mono ?_; rintro e w3 ⟨rfl, hb⟩; exact Og.RetV.mk ⟨bthen hC hb, hb, rfl⟩)
                    refine Og.step_pure (fun _ => Below.refl _ _) ?_; apply Exists.intro; refine And.intro ?_ ?_; focus (intro vs w2 hC hk; revert hk; simp only [Og.KS, Og.K0, Og.Is, List.getD_cons_zero, List.getD_cons_succ, List.getD_nil, List.contains_cons, List.contains_nil, Nat.reduceAdd, Nat.reduceBEq, Bool.or_false, Bool.false_or, Bool.or_true, Bool.true_or, Bool.false_eq_true, false_implies, true_implies, true_and, and_true, forall_const]; intros; go_simp; rfl)
                    refine Og.step_pure (fun _ => Below.refl _ _) ?_; apply Exists.intro; refine And.intro ?_ ?_; focus (intro vs w2 hC hk; revert hk; simp only [Og.KS, Og.K0, Og.Is, List.getD_cons_zero, List.getD_cons_succ, List.getD_nil, List.contains_cons, List.contains_nil, Nat.reduceAdd, Nat.reduceBEq, Bool.or_false, Bool.false_or, Bool.or_true, Bool.true_or, Bool.false_eq_true, false_implies, true_implies, true_and, and_true, forall_const]; intros; go_simp; rfl)
                    intro vs w2 hC hk
                    simp only [Og.KS, Og.K0, Og.Is, List.getD_cons_zero, List.getD_cons_succ, List.getD_nil, List.contains_cons, List.contains_nil, Nat.reduceAdd, Nat.reduceBEq, Bool.or_false, Bool.false_or, Bool.or_true, Bool.true_or, Bool.false_eq_true, false_implies, true_implies, true_and, and_true, forall_const] at hk
                    simp only [hk, Act.put, List.setIfInBounds_toArray, List.set_cons_zero, List.set_cons_succ]
                    clear hk
                    have B2 := Lib.hid (bthen' BQ.out BQ.out.size hC)
                    have HO2 := Lib.hid (own_below HOQ.out hC)
                    have HAY2 := Lib.hid (HAY.out.belowW BQ.out hC)
                    clear hC BQ HOQ
                    clear HDX HDY
                    go_wp2_with (refine wpList_loadC rfl (.tmp 117) rfl rfl HAY2.out ?_)
                    refine Calls.mono (HP.out w2) ?_
                    rintro e w3 ⟨rfl, hb3⟩
                    have B3 := Lib.hid (bthen' B2.out B2.out.size hb3)
                    have HO3 := Lib.hid (own_below HO2.out hb3)
                    clear hb3
                    go_wp2_with (at_builtin; refine wpList_appC rfl (.tmp 115) (.tmp 120) rfl (base := w.heap.size) (B := 0) (v := u8) (xs := pre) (ys := [plC y]) rfl rfl (HO3.out.alloc _) (SlC_one (c := plC y) (heap_at rfl) (Nat.zero_le _)) (by have := hlen.out; simp; omega) (by have := B3.out.size; simp; omega) ?_; intro v1 w4 hown4 hgrow4; have HO4 := Lib.hid hown4; have B4 := Lib.hid ((B3.out.alloc B3.out.size _).grown hgrow4 (by have := B3.out.size; simp; omega) (fun j hj => (HO3.out.lt j hj).1)); clear hown4 hgrow4)
                    all_goals
                      go_roundg ((x :: a).length + b.length)
                      case measure => first | omega | (simp only [List.length_cons, List.length_nil]; omega) | (simp <;> omega)
                      case rel => exact ⟨pre ++ [plC y], (x :: a), b, rfl, Lib.hid (by rw [HNA.out]; have := hf.out; rwa [List.length_cons] at this), Lib.hid (by rw [HNB.out]; exact SlW.tail (c := c2) (b := bb') (o := o') (x := y) (by omega) (by have := hs.out; rwa [List.length_cons] at this) (by intro hh; first | rfl | exact if_neg hh | exact absurd (by assumption) hh | exact absurd hh (by assumption))), Lib.hid (by rw [← hj.out, jn_gt HQ1.out HQ2.out, jn_move]), HO4, B4, Lib.hid (by have := hlen.out; simp only [List.length_append, List.length_cons, List.length_nil] at this ⊢; omega)⟩
                  | false =>
                    have G4 : Hid (∀ w, Calls Try.prog 26 #[.agg #[.int .u32 (atC y).a, .int .i64 (atC y).l], .agg #[.int .u32 (atC x).a, .int .i64 (atC x).l]] w fun e w' => e = .returned (.bool false) ∧ Below w.heap.size w w') := Lib.hid (fun w => by have := before_ok (atC y) (atC x) w; rwa [hq2] at this)
                    have HQ2 := Lib.hid hq2
                    clear hq2
                    go_wp2_with fail
                    refine Og.walk_lit [[],[0],[1,0],[2,1,0],[3,2,1,0],[4,3,2,1,0],[5,3,4,2,1,0],[6,3,5,4,2,1,0],[3,2,1,0],[8,3,2,1,0],[9,3,8,2,1,0],[10,7,3,9,8,2,1,0,6,5,4],[7,11,3,6,5,4,2,1,0,10,9,8],[3,12,2,1,0,7,11,6,5,4,10,9,8],[13,12,3,2,1,0,7,11,6,5,4,10,9,8]] (fun w2 => Below wq.heap.size wq w2) (fun w1 w2 => Below w1.heap.size w1 w2) (by kernel_rfl) (by kernel_rfl) (bdrew) ?_
                    refine Og.step_pure (fun _ => Below.refl _ _) ?_; apply Exists.intro; refine And.intro ?_ ?_; focus (intro vs w2 hC hk; revert hk; simp only [Og.KS, Og.K0, Og.Is, List.getD_cons_zero, List.getD_cons_succ, List.getD_nil, List.contains_cons, List.contains_nil, Nat.reduceAdd, Nat.reduceBEq, Bool.or_false, Bool.false_or, Bool.or_true, Bool.true_or, Bool.false_eq_true, false_implies, true_implies, true_and, and_true, forall_const]; intros; go_simp; rfl)
                    refine Og.step_pure (fun _ => Below.refl _ _) ?_; apply Exists.intro; refine And.intro ?_ ?_; focus (intro vs w2 hC hk; revert hk; simp only [Og.KS, Og.K0, Og.Is, List.getD_cons_zero, List.getD_cons_succ, List.getD_nil, List.contains_cons, List.contains_nil, Nat.reduceAdd, Nat.reduceBEq, Bool.or_false, Bool.false_or, Bool.or_true, Bool.true_or, Bool.false_eq_true, false_implies, true_implies, true_and, and_true, forall_const]; intros; go_simp; rfl)
                    refine Og.step_pure (fun _ => Below.refl _ _) ?_; apply Exists.intro; refine And.intro ?_ ?_; focus (intro vs w2 hC hk; revert hk; simp only [Og.KS, Og.K0, Og.Is, List.getD_cons_zero, List.getD_cons_succ, List.getD_nil, List.contains_cons, List.contains_nil, Nat.reduceAdd, Nat.reduceBEq, Bool.or_false, Bool.false_or, Bool.or_true, Bool.true_or, Bool.false_eq_true, false_implies, true_implies, true_and, and_true, forall_const]; intros; go_simp; rfl)
                    refine Og.step_pure (fun _ => Below.refl _ _) ?_; apply Exists.intro; refine And.intro ?_ ?_; focus (intro vs w2 hC hk; revert hk; simp only [Og.KS, Og.K0, Og.Is, List.getD_cons_zero, List.getD_cons_succ, List.getD_nil, List.contains_cons, List.contains_nil, Nat.reduceAdd, Nat.reduceBEq, Bool.or_false, Bool.false_or, Bool.or_true, Bool.true_or, Bool.false_eq_true, false_implies, true_implies, true_and, and_true, forall_const]; intros; go_simp; rfl)
                    refine Og.step_pure (fun _ => Below.refl _ _) ?_; apply Exists.intro; refine And.intro ?_ ?_; focus (intro vs w2 hC hk; revert hk; simp only [Og.KS, Og.K0, Og.Is, List.getD_cons_zero, List.getD_cons_succ, List.getD_nil, List.contains_cons, List.contains_nil, Nat.reduceAdd, Nat.reduceBEq, Bool.or_false, Bool.false_or, Bool.or_true, Bool.true_or, Bool.false_eq_true, false_implies, true_implies, true_and, and_true, forall_const]; intros; go_simp; rfl)
                    refine Og.step_pure (fun _ => Below.refl _ _) ?_; apply Exists.intro; refine And.intro ?_ ?_; focus (intro vs w2 hC hk; revert hk; simp only [Og.KS, Og.K0, Og.Is, List.getD_cons_zero, List.getD_cons_succ, List.getD_nil, List.contains_cons, List.contains_nil, Nat.reduceAdd, Nat.reduceBEq, Bool.or_false, Bool.false_or, Bool.or_true, Bool.true_or, Bool.false_eq_true, false_implies, true_implies, true_and, and_true, forall_const]; intros; go_simp; rfl)
                    refine Og.step_pureB (fun _ => Below.refl _ _) ⟨vC y, ?_, ?_⟩; focus (intro vs w2 hC hk; simp only [Og.KS, Og.K0, Og.Is, List.getD_cons_zero, List.getD_cons_succ, List.getD_nil, List.contains_cons, List.contains_nil, Nat.reduceAdd, Nat.reduceBEq, Bool.or_false, Bool.false_or, Bool.or_true, Bool.true_or, Bool.false_eq_true, false_implies, true_implies, true_and, and_true, forall_const] at hk; refine optB_loadC ?_ rfl ?_ (HDY.out w2 hC) ⟨rfl, rfl⟩ <;> go_simp)
                    refine Og.step_one ?_; apply Exists.intro; refine And.intro ?_ ?_; focus (intro vs w2 hC hk; revert hk; simp only [Og.KS, Og.K0, Og.Is, List.getD_cons_zero, List.getD_cons_succ, List.getD_nil, List.contains_cons, List.contains_nil, Nat.reduceAdd, Nat.reduceBEq, Bool.or_false, Bool.false_or, Bool.or_true, Bool.true_or, Bool.false_eq_true, false_implies, true_implies, true_and, and_true, forall_const]; intros; go_simp; with_reducible refine (G2.out _).mono ?_; rintro e w3 ⟨rfl, hb⟩; exact Og.RetV.mk ⟨bthen hC hb, hb, rfl⟩)
                    refine Og.step_pure (fun _ => Below.refl _ _) ?_; apply Exists.intro; refine And.intro ?_ ?_; focus (intro vs w2 hC hk; revert hk; simp only [Og.KS, Og.K0, Og.Is, List.getD_cons_zero, List.getD_cons_succ, List.getD_nil, List.contains_cons, List.contains_nil, Nat.reduceAdd, Nat.reduceBEq, Bool.or_false, Bool.false_or, Bool.or_true, Bool.true_or, Bool.false_eq_true, false_implies, true_implies, true_and, and_true, forall_const]; intros; go_simp; rfl)
                    refine Og.step_pure (fun _ => Below.refl _ _) ?_; apply Exists.intro; refine And.intro ?_ ?_; focus (intro vs w2 hC hk; revert hk; simp only [Og.KS, Og.K0, Og.Is, List.getD_cons_zero, List.getD_cons_succ, List.getD_nil, List.contains_cons, List.contains_nil, Nat.reduceAdd, Nat.reduceBEq, Bool.or_false, Bool.false_or, Bool.or_true, Bool.true_or, Bool.false_eq_true, false_implies, true_implies, true_and, and_true, forall_const]; intros; go_simp; rfl)
                    refine Og.step_pureB (fun _ => Below.refl _ _) ⟨vC x, ?_, ?_⟩; focus (intro vs w2 hC hk; simp only [Og.KS, Og.K0, Og.Is, List.getD_cons_zero, List.getD_cons_succ, List.getD_nil, List.contains_cons, List.contains_nil, Nat.reduceAdd, Nat.reduceBEq, Bool.or_false, Bool.false_or, Bool.or_true, Bool.true_or, Bool.false_eq_true, false_implies, true_implies, true_and, and_true, forall_const] at hk; refine optB_loadC ?_ rfl ?_ (HDX.out w2 hC) ⟨rfl, rfl⟩ <;> go_simp)
                    refine Og.step_one ?_; apply Exists.intro; refine And.intro ?_ ?_; focus (intro vs w2 hC hk; revert hk; simp only [Og.KS, Og.K0, Og.Is, List.getD_cons_zero, List.getD_cons_succ, List.getD_nil, List.contains_cons, List.contains_nil, Nat.reduceAdd, Nat.reduceBEq, Bool.or_false, Bool.false_or, Bool.or_true, Bool.true_or, Bool.false_eq_true, false_implies, true_implies, true_and, and_true, forall_const]; intros; go_simp; with_reducible refine (G1.out _).mono ?_; rintro e w3 ⟨rfl, hb⟩; exact Og.RetV.mk ⟨bthen hC hb, hb, rfl⟩)
                    refine Og.step_one ?_; apply Exists.intro; refine And.intro ?_ ?_; focus (intro vs w2 hC hk; revert hk; simp only [Og.KS, Og.K0, Og.Is, List.getD_cons_zero, List.getD_cons_succ, List.getD_nil, List.contains_cons, List.contains_nil, Nat.reduceAdd, Nat.reduceBEq, Bool.or_false, Bool.false_or, Bool.or_true, Bool.true_or, Bool.false_eq_true, false_implies, true_implies, true_and, and_true, forall_const]; intros; go_simp; with_reducible refine (G4.out _).mono ?_; rintro e w3 ⟨rfl, hb⟩; exact Og.RetV.mk ⟨bthen hC hb, hb, rfl⟩)
                    refine Og.step_pure (fun _ => Below.refl _ _) ?_; apply Exists.intro; refine And.intro ?_ ?_; focus (intro vs w2 hC hk; revert hk; simp only [Og.KS, Og.K0, Og.Is, List.getD_cons_zero, List.getD_cons_succ, List.getD_nil, List.contains_cons, List.contains_nil, Nat.reduceAdd, Nat.reduceBEq, Bool.or_false, Bool.false_or, Bool.or_true, Bool.true_or, Bool.false_eq_true, false_implies, true_implies, true_and, and_true, forall_const]; intros; go_simp; rfl)
                    refine Og.step_pure (fun _ => Below.refl _ _) ?_; apply Exists.intro; refine And.intro ?_ ?_; focus (intro vs w2 hC hk; revert hk; simp only [Og.KS, Og.K0, Og.Is, List.getD_cons_zero, List.getD_cons_succ, List.getD_nil, List.contains_cons, List.contains_nil, Nat.reduceAdd, Nat.reduceBEq, Bool.or_false, Bool.false_or, Bool.or_true, Bool.true_or, Bool.false_eq_true, false_implies, true_implies, true_and, and_true, forall_const]; intros; go_simp; rfl)
                    intro vs w2 hC hk
                    simp only [Og.KS, Og.K0, Og.Is, List.getD_cons_zero, List.getD_cons_succ, List.getD_nil, List.contains_cons, List.contains_nil, Nat.reduceAdd, Nat.reduceBEq, Bool.or_false, Bool.false_or, Bool.or_true, Bool.true_or, Bool.false_eq_true, false_implies, true_implies, true_and, and_true, forall_const] at hk
                    simp only [hk, Act.put, List.setIfInBounds_toArray, List.set_cons_zero, List.set_cons_succ]
                    clear hk
                    have BR := Lib.hid (bthen' BQ.out BQ.out.size hC)
                    have HOR := Lib.hid (own_below HOQ.out hC)
                    clear hC BQ HOQ HDX HDY
                    obtain ⟨wt, rfl⟩ : ∃ wt : World, wt = w2 := ⟨_, rfl⟩
                    have HPX : Hid (∀ w, Calls Try.prog 34 #[vC x] w fun e w' => e = .returned (vC (plC x)) ∧ Below w.heap.size w w') := Lib.hid (fun w => plain_ok x w)
                    have HPY : Hid (∀ w, Calls Try.prog 34 #[vC y] w fun e w' => e = .returned (vC (plC y)) ∧ Below w.heap.size w w') := Lib.hid (fun w => plain_ok y w)
                    have HEX : Hid (∀ w2, Below wt.heap.size wt w2 → AtC w2 bb o x) := Lib.hid (fun w2 h => HAX.out.belowW BR.out h)
                    have HEY : Hid (∀ w2, Below wt.heap.size wt w2 → AtC w2 bb' o' y) := Lib.hid (fun w2 h => HAY.out.belowW BR.out h)
                    go_wp2_with fail
                    refine Og.Joint.walk_lit 10 [[],[0],[1,0],[2,1,0],[],[4],[5,4],[6,3,5,4,2,1,0],[],[],[8,3,7,0,1,2,9,6,5,4],[9,7,10,0,1,2,3,4,5,6,8]] (CJ wt) (fun w1 w2 => Below w1.heap.size w1 w2) (by kernel_rfl) (by kernel_rfl) (by kernel_rfl) (CJ.start bdrew) ?_
                    simp only [List.take_succ_cons, List.take_zero, List.drop_succ_cons, List.drop_zero]
                    refine Og.Joint.step_pure (fun p vs v w h => h.other (by decide) (by decide) (Below.refl _ _)) (fun _ => Below.refl _ _) ?_; apply Exists.intro; refine And.intro ?_ ?_; focus (intro p vs w2 hC hk; refine Og.OptB.mk ?_; revert hk; simp only [Og.KS, Og.K0, Og.Is, List.getD_cons_zero, List.getD_cons_succ, List.getD_nil, List.contains_cons, List.contains_nil, Nat.reduceAdd, Nat.reduceBEq, Bool.or_false, Bool.false_or, Bool.or_true, Bool.true_or, Bool.false_eq_true, false_implies, true_implies, true_and, and_true, forall_const]; intros; go_simp; rfl)
                    refine Og.Joint.step_pure (fun p vs v w h => h.other (by decide) (by decide) (Below.refl _ _)) (fun _ => Below.refl _ _) ?_; apply Exists.intro; refine And.intro ?_ ?_; focus (intro p vs w2 hC hk; refine Og.OptB.mk ?_; revert hk; simp only [Og.KS, Og.K0, Og.Is, List.getD_cons_zero, List.getD_cons_succ, List.getD_nil, List.contains_cons, List.contains_nil, Nat.reduceAdd, Nat.reduceBEq, Bool.or_false, Bool.false_or, Bool.or_true, Bool.true_or, Bool.false_eq_true, false_implies, true_implies, true_and, and_true, forall_const]; intros; go_simp; rfl)
                    refine Og.Joint.step_pure (fun p vs v w h => h.other (by decide) (by decide) (Below.refl _ _)) (fun _ => Below.refl _ _) ⟨vC x, ?_, ?_⟩; focus (intro p vs w2 hC hk; simp only [Og.KS, Og.K0, Og.Is, List.getD_cons_zero, List.getD_cons_succ, List.getD_nil, List.contains_cons, List.contains_nil, Nat.reduceAdd, Nat.reduceBEq, Bool.or_false, Bool.false_or, Bool.or_true, Bool.true_or, Bool.false_eq_true, false_implies, true_implies, true_and, and_true, forall_const] at hk; refine optB_loadC ?_ rfl ?_ (HEX.out w2 hC.1) ⟨rfl, rfl⟩ <;> go_simp)
                    refine Og.Joint.step_any (Og.Is (vC (plC x))) (fun _ _ _ _ h => h) ?_ ?_; focus (intro p vs w2 hp hC hk; refine Og.OptB.mk ?_; revert hk; simp only [Og.KS, Og.K0, Og.Is, List.getD_cons_zero, List.getD_cons_succ, List.getD_nil, List.contains_cons, List.contains_nil, Nat.reduceAdd, Nat.reduceBEq, Bool.or_false, Bool.false_or, Bool.or_true, Bool.true_or, Bool.false_eq_true, false_implies, true_implies, true_and, and_true, forall_const]; intro hk; go_simp; with_reducible refine Calls.mono (HPX.out w2) ?_; rintro e w3 ⟨rfl, hb⟩; exact Og.RetV.mk ⟨hC.other (by decide) (by decide) hb, hb, rfl⟩)
                    refine Og.Joint.step_pure (fun p vs v w h => h.other (by decide) (by decide) (Below.refl _ _)) (fun _ => Below.refl _ _) ?_; apply Exists.intro; refine And.intro ?_ ?_; focus (intro p vs w2 hC hk; refine Og.OptB.mk ?_; revert hk; simp only [Og.KS, Og.K0, Og.Is, List.getD_cons_zero, List.getD_cons_succ, List.getD_nil, List.contains_cons, List.contains_nil, Nat.reduceAdd, Nat.reduceBEq, Bool.or_false, Bool.false_or, Bool.or_true, Bool.true_or, Bool.false_eq_true, false_implies, true_implies, true_and, and_true, forall_const]; intros; go_simp; rfl)
                    refine Og.Joint.step_pure (fun p vs v w h => h.other (by decide) (by decide) (Below.refl _ _)) (fun _ => Below.refl _ _) ?_; apply Exists.intro; refine And.intro ?_ ?_; focus (intro p vs w2 hC hk; refine Og.OptB.mk ?_; revert hk; simp only [Og.KS, Og.K0, Og.Is, List.getD_cons_zero, List.getD_cons_succ, List.getD_nil, List.contains_cons, List.contains_nil, Nat.reduceAdd, Nat.reduceBEq, Bool.or_false, Bool.false_or, Bool.or_true, Bool.true_or, Bool.false_eq_true, false_implies, true_implies, true_and, and_true, forall_const]; intros; go_simp; rfl)
                    refine Og.Joint.step_pure (fun p vs v w h => h.other (by decide) (by decide) (Below.refl _ _)) (fun _ => Below.refl _ _) ⟨vC y, ?_, ?_⟩; focus (intro p vs w2 hC hk; simp only [Og.KS, Og.K0, Og.Is, List.getD_cons_zero, List.getD_cons_succ, List.getD_nil, List.contains_cons, List.contains_nil, Nat.reduceAdd, Nat.reduceBEq, Bool.or_false, Bool.false_or, Bool.or_true, Bool.true_or, Bool.false_eq_true, false_implies, true_implies, true_and, and_true, forall_const] at hk; refine optB_loadC ?_ rfl ?_ (HEY.out w2 hC.1) ⟨rfl, rfl⟩ <;> go_simp)
                    refine Og.Joint.step_any (Og.Is (vC (plC y))) (fun _ _ _ _ h => h) ?_ ?_; focus (intro p vs w2 hp hC hk; refine Og.OptB.mk ?_; revert hk; simp only [Og.KS, Og.K0, Og.Is, List.getD_cons_zero, List.getD_cons_succ, List.getD_nil, List.contains_cons, List.contains_nil, Nat.reduceAdd, Nat.reduceBEq, Bool.or_false, Bool.false_or, Bool.or_true, Bool.true_or, Bool.false_eq_true, false_implies, true_implies, true_and, and_true, forall_const]; intro hk; go_simp; with_reducible refine Calls.mono (HPY.out w2) ?_; rintro e w3 ⟨rfl, hb⟩; exact Og.RetV.mk ⟨hC.other (by decide) (by decide) hb, hb, rfl⟩)
                    refine Og.Joint.step_any (fun _ _ => True) (fun _ _ _ _ _ => trivial) ?_ ?_; focus (intro p vs w2 hp hC hk; refine Og.OptB.mk ?_; go_simp; exact ⟨hC.a8, (Below.refl _ _).alloc (Nat.le_refl _) _⟩)
                    refine Og.Joint.step_any (fun _ _ => True) (fun _ _ _ _ _ => trivial) ?_ ?_; focus (intro p vs w2 hp hC hk; refine Og.OptB.mk ?_; go_simp; exact ⟨hC.a9, (Below.refl _ _).alloc (Nat.le_refl _) _⟩)
                    intro p vs w2 hp hC hk
                    obtain ⟨g8, e8, hg8, b8⟩ := hC.2.1 (hp 8 (by decide))
                    obtain ⟨g9, e9, hg9, b9⟩ := hC.2.2.1 (hp 9 (by decide))
                    have hne : g8 ≠ g9 := fun e => hC.2.2.2 (hp 8 (by decide)) (hp 9 (by decide)) (by rw [e8, e9, e])
                    simp only [Og.KS, Og.K0, Og.Is, List.getD_cons_zero, List.getD_cons_succ, List.getD_nil, List.contains_cons, List.contains_nil, Nat.reduceAdd, Nat.reduceBEq, Bool.or_false, Bool.false_or, Bool.or_true, Bool.true_or, Bool.false_eq_true, false_implies, true_implies, true_and, and_true, forall_const] at hk
                    simp only [hk, e8, e9, Act.put, List.setIfInBounds_toArray, List.set_cons_zero, List.set_cons_succ]
                    have BT := Lib.hid (bthen' BR.out BR.out.size hC.1)
                    have HOT := Lib.hid (own_below HOR.out hC.1)
                    have G8 := Lib.hid b8
                    have G9 := Lib.hid b9
                    have GN := Lib.hid (And.intro hne (And.intro (Nat.le_trans BR.out.size hg8) (Nat.le_trans BR.out.size hg9)))
                    have GK := Lib.hid (And.intro (row_new HOR.out hg8) (row_new HOR.out hg9))
                    clear hk e8 e9 hp hC hg8 b8 hg9 b9 hne HEX HEY BR HOR HPX HPY G1 G2 G3 G4
                    by_cases hq3 : (plC x).n = (plC y).o
                    · have te : eqRb (plC x).n.p.a (plC x).n.p.l (plC x).n.m (plC x).n.o0 (plC x).n.o1 (plC x).n.h0 (plC x).n.h1 (plC y).o.p.a (plC y).o.p.l (plC y).o.m (plC y).o.o0 (plC y).o.o1 (plC y).o.h0 (plC y).o.h1 = true := by rw [eqRb_of]; simpa using hq3
                      have HQ3 := Lib.hid hq3
                      obtain ⟨ch, bb, hcb⟩ : ∃ ch bb, chgP (plC x).o (plC y).n = (ch, bb) := ⟨_, _, rfl⟩
                      have HCH : Hid (∀ w, Calls Try.prog 35 #[.agg #[.int .u32 (plC x).o.p.a, .int .i64 (plC x).o.p.l, .int .i64 (plC x).o.m, .int .u64 (plC x).o.o0, .int .u64 (plC x).o.o1, .int .u64 (plC x).o.h0, .int .u64 (plC x).o.h1], .agg #[.int .u32 (plC y).n.p.a, .int .i64 (plC y).n.p.l, .int .i64 (plC y).n.m, .int .u64 (plC y).n.o0, .int .u64 (plC y).n.o1, .int .u64 (plC y).n.h0, .int .u64 (plC y).n.h1]] w fun e w' => e = .returned (.tuple #[vC ch, .bool bb]) ∧ Below w.heap.size w w') := Lib.hid (fun w => by have := changeP_ok (plC x).o (plC y).n w; rw [hcb] at this; exact this)
                      have HL := Lib.hid (show chgL (plC x).o (plC y).n = if bb then [ch] else [] by rw [chgP_L, hcb])
                      clear hq3 hcb
                      go_wp2_with (first | (refine wpList_storeC (x := plC x) rfl (.tmp 9) (.tmp 44) rfl rfl g8 rfl rfl _ G8.out rfl ?_; intro w5 hz5 hb5 hk5 hs5; have Z8 := Lib.hid hz5; have G95 := Lib.hid ((hk5 g9 (fun e => GN.out.1 e.symm)).trans G9.out); have B5 := Lib.hid (BT.out.trans (hb5 _ GN.out.2.1)); have HO5 := Lib.hid (HOT.out.kept (grown_of hk5 hs5 (hb5 0 (Nat.zero_le _)) : w2.grownBy w5 (some g8)) (.inr GK.out.1)); clear hz5 hb5 hk5 hs5) | (refine wpList_storeC (x := plC y) rfl (.tmp 10) (.tmp 48) rfl rfl g9 rfl rfl _ G95.out rfl ?_; intro w6 hz6 hb6 hk6 hs6; have Y8 := Lib.hid ((hk6 g8 GN.out.1).trans Z8.out); have Y9 := Lib.hid hz6; have B6 := Lib.hid (B5.out.trans (hb6 _ GN.out.2.2)); have HO6 := Lib.hid (HO5.out.kept (grown_of hk6 hs6 (hb6 0 (Nat.zero_le _)) : w5.grownBy w6 (some g9)) (.inr GK.out.2)); have m8 := cells15 (show w6.heap[g8]? = some (.cells #[.int .i64 (plC x).k, .int .u32 (plC x).o.p.a, .int .i64 (plC x).o.p.l, .int .i64 (plC x).o.m, .int .u64 (plC x).o.o0, .int .u64 (plC x).o.o1, .int .u64 (plC x).o.h0, .int .u64 (plC x).o.h1, .int .u32 (plC x).n.p.a, .int .i64 (plC x).n.p.l, .int .i64 (plC x).n.m, .int .u64 (plC x).n.o0, .int .u64 (plC x).n.o1, .int .u64 (plC x).n.h0, .int .u64 (plC x).n.h1] 42 (0, 0)) from Y8.out); have m9 := cells15 (show w6.heap[g9]? = some (.cells #[.int .i64 (plC y).k, .int .u32 (plC y).o.p.a, .int .i64 (plC y).o.p.l, .int .i64 (plC y).o.m, .int .u64 (plC y).o.o0, .int .u64 (plC y).o.o1, .int .u64 (plC y).o.h0, .int .u64 (plC y).o.h1, .int .u32 (plC y).n.p.a, .int .i64 (plC y).n.p.l, .int .i64 (plC y).n.m, .int .u64 (plC y).n.o0, .int .u64 (plC y).n.o1, .int .u64 (plC y).n.h0, .int .u64 (plC y).n.h1] 42 (0, 0)) from hz6); clear hz6 hb6 hk6 hs6))
                      refine Calls.mono (HCH.out w6) ?_
                      rintro e w7 ⟨rfl, hb7⟩
                      have B7 := Lib.hid (bthen' B6.out B6.out.size hb7)
                      have HO7 := Lib.hid (own_below HO6.out hb7)
                      clear hb7 m8 m9
                      cases bb with
                      | true =>
                        simp only [if_true] at HL
                        go_wp2_with (first | (refine wpList_storeC (x := ch) rfl (.tmp 11) (.tmp 60) rfl rfl w7.heap.size rfl rfl _ (heap_at rfl) rfl ?_; intro w8 hz8 hb8 hk8 hs8; have X8 := Lib.hid hz8; have B8 := Lib.hid ((B7.out.alloc B7.out.size (.cells (vC zC).cells 42)).trans (hb8 _ B7.out.size)); have HO8 := Lib.hid ((HO7.out.alloc (.cells (vC zC).cells 42)).kept (grown_of hk8 hs8 (hb8 0 (Nat.zero_le _)) : (w7.alloc (.cells (vC zC).cells 42)).grownBy w8 (some w7.heap.size)) (.inr (row_new HO7.out (Nat.le_refl _)))); clear hz8 hb8 hk8 hs8) | (refine wpList_loadX rfl (.tmp 11) rfl rfl (AtC_cells X8.out) ?_) | (at_builtin; refine wpList_appC rfl (.tmp 63) (.tmp 65) rfl (base := w.heap.size) (B := 0) (v := u8) (xs := pre) (ys := [ch]) rfl rfl (HO8.out.alloc _) (SlC_one (c := ch) (heap_at rfl) (Nat.zero_le _)) (by have := hlen.out; simp; omega) (by have := B8.out.size; simp; omega) ?_; intro v1 w9 hown9 hgrow9; have HO9 := Lib.hid hown9; have B9 := Lib.hid ((B8.out.alloc B8.out.size _).grown hgrow9 (by have := B8.out.size; simp; omega) (fun j hj => (HO8.out.lt j hj).1)); clear hown9 hgrow9))
                        refine Og.walk_lit [[],[0],[],[2],[1,0],[3,4,0,1,2]] (fun w2 => Below w9.heap.size w9 w2) (fun w1 w2 => Below w1.heap.size w1 w2) (by kernel_rfl) (by kernel_rfl) (bdrew) ?_
                        refine Og.step_pure (fun _ => Below.refl _ _) ?_; apply Exists.intro; refine And.intro ?_ ?_; focus (intro vs w2 hC hk; revert hk; simp only [Og.KS, Og.K0, Og.Is, List.getD_cons_zero, List.getD_cons_succ, List.getD_nil, List.contains_cons, List.contains_nil, Nat.reduceAdd, Nat.reduceBEq, Bool.or_false, Bool.false_or, Bool.or_true, Bool.true_or, Bool.false_eq_true, false_implies, true_implies, true_and, and_true, forall_const]; intros; go_simp; rfl)
                        refine Og.step_pure (fun _ => Below.refl _ _) ?_; apply Exists.intro; refine And.intro ?_ ?_; focus (intro vs w2 hC hk; revert hk; simp only [Og.KS, Og.K0, Og.Is, List.getD_cons_zero, List.getD_cons_succ, List.getD_nil, List.contains_cons, List.contains_nil, Nat.reduceAdd, Nat.reduceBEq, Bool.or_false, Bool.false_or, Bool.or_true, Bool.true_or, Bool.false_eq_true, false_implies, true_implies, true_and, and_true, forall_const]; intros; go_simp; rfl)
                        refine Og.step_pure (fun _ => Below.refl _ _) ?_; apply Exists.intro; refine And.intro ?_ ?_; focus (intro vs w2 hC hk; revert hk; simp only [Og.KS, Og.K0, Og.Is, List.getD_cons_zero, List.getD_cons_succ, List.getD_nil, List.contains_cons, List.contains_nil, Nat.reduceAdd, Nat.reduceBEq, Bool.or_false, Bool.false_or, Bool.or_true, Bool.true_or, Bool.false_eq_true, false_implies, true_implies, true_and, and_true, forall_const]; intros; go_simp; rfl)
                        refine Og.step_pure (fun _ => Below.refl _ _) ?_; apply Exists.intro; refine And.intro ?_ ?_; focus (intro vs w2 hC hk; revert hk; simp only [Og.KS, Og.K0, Og.Is, List.getD_cons_zero, List.getD_cons_succ, List.getD_nil, List.contains_cons, List.contains_nil, Nat.reduceAdd, Nat.reduceBEq, Bool.or_false, Bool.false_or, Bool.or_true, Bool.true_or, Bool.false_eq_true, false_implies, true_implies, true_and, and_true, forall_const]; intros; go_simp; rfl)
                        refine Og.step_pure (fun _ => Below.refl _ _) ?_; apply Exists.intro; refine And.intro ?_ ?_; focus (intro vs w2 hC hk; revert hk; simp only [Og.KS, Og.K0, Og.Is, List.getD_cons_zero, List.getD_cons_succ, List.getD_nil, List.contains_cons, List.contains_nil, Nat.reduceAdd, Nat.reduceBEq, Bool.or_false, Bool.false_or, Bool.or_true, Bool.true_or, Bool.false_eq_true, false_implies, true_implies, true_and, and_true, forall_const]; intros; go_simp; rfl)
                        refine Og.step_pure (fun _ => Below.refl _ _) ?_; apply Exists.intro; refine And.intro ?_ ?_; focus (intro vs w2 hC hk; revert hk; simp only [Og.KS, Og.K0, Og.Is, List.getD_cons_zero, List.getD_cons_succ, List.getD_nil, List.contains_cons, List.contains_nil, Nat.reduceAdd, Nat.reduceBEq, Bool.or_false, Bool.false_or, Bool.or_true, Bool.true_or, Bool.false_eq_true, false_implies, true_implies, true_and, and_true, forall_const]; intros; go_simp; rfl)
                        intro vs w2 hC hk
                        simp only [Og.KS, Og.K0, Og.Is, List.getD_cons_zero, List.getD_cons_succ, List.getD_nil, List.contains_cons, List.contains_nil, Nat.reduceAdd, Nat.reduceBEq, Bool.or_false, Bool.false_or, Bool.or_true, Bool.true_or, Bool.false_eq_true, false_implies, true_implies, true_and, and_true, forall_const] at hk
                        simp only [hk, Act.put, List.setIfInBounds_toArray, List.set_cons_zero, List.set_cons_succ]
                        clear hk
                        have BZ := Lib.hid (bthen' B9.out B9.out.size hC)
                        have HOZ := Lib.hid (own_below HO9.out hC)
                        clear hC
                        go_wp2_with fail
                        all_goals
                          go_roundg (a.length + b.length)
                          case measure => first | omega | (simp only [List.length_cons, List.length_nil]; omega) | (simp <;> omega)
                          case rel => exact ⟨pre ++ [ch], a, b, rfl, Lib.hid (by rw [HNA.out]; exact SlW.tail (c := c1) (b := bb) (o := o) (x := x) (by omega) (by have := hf.out; rwa [List.length_cons] at this) (by intro hh; first | rfl | exact if_neg hh | exact absurd (by assumption) hh | exact absurd hh (by assumption))), Lib.hid (by rw [HNB.out]; exact SlW.tail (c := c2) (b := bb') (o := o') (x := y) (by omega) (by have := hs.out; rwa [List.length_cons] at this) (by intro hh; first | rfl | exact if_neg hh | exact absurd (by assumption) hh | exact absurd hh (by assumption))), Lib.hid (by rw [← hj.out, jn_eq HQ1.out HQ2.out HQ3.out, jn_move, HL.out]), HOZ, BZ, Lib.hid (by have := hlen.out; simp only [List.length_append, List.length_cons, List.length_nil] at this ⊢; omega)⟩
                      | false =>
                        simp only [Bool.false_eq_true, if_false] at HL
                        go_wp2_with (refine wpList_storeC (x := ch) rfl (.tmp 11) (.tmp 60) rfl rfl w7.heap.size rfl rfl _ (heap_at rfl) rfl ?_; intro w8 hz8 hb8 hk8 hs8; have X8 := Lib.hid hz8; have B8 := Lib.hid ((B7.out.alloc B7.out.size (.cells (vC zC).cells 42)).trans (hb8 _ B7.out.size)); have HO8 := Lib.hid ((HO7.out.alloc (.cells (vC zC).cells 42)).kept (grown_of hk8 hs8 (hb8 0 (Nat.zero_le _)) : (w7.alloc (.cells (vC zC).cells 42)).grownBy w8 (some w7.heap.size)) (.inr (row_new HO7.out (Nat.le_refl _)))); clear hz8 hb8 hk8 hs8)
                        refine Og.walk_lit [[],[0],[],[2],[1,0],[3,4,0,1,2]] (fun w2 => Below w8.heap.size w8 w2) (fun w1 w2 => Below w1.heap.size w1 w2) (by kernel_rfl) (by kernel_rfl) (bdrew) ?_
                        refine Og.step_pure (fun _ => Below.refl _ _) ?_; apply Exists.intro; refine And.intro ?_ ?_; focus (intro vs w2 hC hk; revert hk; simp only [Og.KS, Og.K0, Og.Is, List.getD_cons_zero, List.getD_cons_succ, List.getD_nil, List.contains_cons, List.contains_nil, Nat.reduceAdd, Nat.reduceBEq, Bool.or_false, Bool.false_or, Bool.or_true, Bool.true_or, Bool.false_eq_true, false_implies, true_implies, true_and, and_true, forall_const]; intros; go_simp; rfl)
                        refine Og.step_pure (fun _ => Below.refl _ _) ?_; apply Exists.intro; refine And.intro ?_ ?_; focus (intro vs w2 hC hk; revert hk; simp only [Og.KS, Og.K0, Og.Is, List.getD_cons_zero, List.getD_cons_succ, List.getD_nil, List.contains_cons, List.contains_nil, Nat.reduceAdd, Nat.reduceBEq, Bool.or_false, Bool.false_or, Bool.or_true, Bool.true_or, Bool.false_eq_true, false_implies, true_implies, true_and, and_true, forall_const]; intros; go_simp; rfl)
                        refine Og.step_pure (fun _ => Below.refl _ _) ?_; apply Exists.intro; refine And.intro ?_ ?_; focus (intro vs w2 hC hk; revert hk; simp only [Og.KS, Og.K0, Og.Is, List.getD_cons_zero, List.getD_cons_succ, List.getD_nil, List.contains_cons, List.contains_nil, Nat.reduceAdd, Nat.reduceBEq, Bool.or_false, Bool.false_or, Bool.or_true, Bool.true_or, Bool.false_eq_true, false_implies, true_implies, true_and, and_true, forall_const]; intros; go_simp; rfl)
                        refine Og.step_pure (fun _ => Below.refl _ _) ?_; apply Exists.intro; refine And.intro ?_ ?_; focus (intro vs w2 hC hk; revert hk; simp only [Og.KS, Og.K0, Og.Is, List.getD_cons_zero, List.getD_cons_succ, List.getD_nil, List.contains_cons, List.contains_nil, Nat.reduceAdd, Nat.reduceBEq, Bool.or_false, Bool.false_or, Bool.or_true, Bool.true_or, Bool.false_eq_true, false_implies, true_implies, true_and, and_true, forall_const]; intros; go_simp; rfl)
                        refine Og.step_pure (fun _ => Below.refl _ _) ?_; apply Exists.intro; refine And.intro ?_ ?_; focus (intro vs w2 hC hk; revert hk; simp only [Og.KS, Og.K0, Og.Is, List.getD_cons_zero, List.getD_cons_succ, List.getD_nil, List.contains_cons, List.contains_nil, Nat.reduceAdd, Nat.reduceBEq, Bool.or_false, Bool.false_or, Bool.or_true, Bool.true_or, Bool.false_eq_true, false_implies, true_implies, true_and, and_true, forall_const]; intros; go_simp; rfl)
                        refine Og.step_pure (fun _ => Below.refl _ _) ?_; apply Exists.intro; refine And.intro ?_ ?_; focus (intro vs w2 hC hk; revert hk; simp only [Og.KS, Og.K0, Og.Is, List.getD_cons_zero, List.getD_cons_succ, List.getD_nil, List.contains_cons, List.contains_nil, Nat.reduceAdd, Nat.reduceBEq, Bool.or_false, Bool.false_or, Bool.or_true, Bool.true_or, Bool.false_eq_true, false_implies, true_implies, true_and, and_true, forall_const]; intros; go_simp; rfl)
                        intro vs w2 hC hk
                        simp only [Og.KS, Og.K0, Og.Is, List.getD_cons_zero, List.getD_cons_succ, List.getD_nil, List.contains_cons, List.contains_nil, Nat.reduceAdd, Nat.reduceBEq, Bool.or_false, Bool.false_or, Bool.or_true, Bool.true_or, Bool.false_eq_true, false_implies, true_implies, true_and, and_true, forall_const] at hk
                        simp only [hk, Act.put, List.setIfInBounds_toArray, List.set_cons_zero, List.set_cons_succ]
                        clear hk
                        have BZ := Lib.hid (bthen' B8.out B8.out.size hC)
                        have HOZ := Lib.hid (own_below HO8.out hC)
                        clear hC
                        go_wp2_with fail
                        all_goals
                          go_roundg (a.length + b.length)
                          case measure => first | omega | (simp only [List.length_cons, List.length_nil]; omega) | (simp <;> omega)
                          case rel => exact ⟨pre, a, b, rfl, Lib.hid (by rw [HNA.out]; exact SlW.tail (c := c1) (b := bb) (o := o) (x := x) (by omega) (by have := hf.out; rwa [List.length_cons] at this) (by intro hh; first | rfl | exact if_neg hh | exact absurd (by assumption) hh | exact absurd hh (by assumption))), Lib.hid (by rw [HNB.out]; exact SlW.tail (c := c2) (b := bb') (o := o') (x := y) (by omega) (by have := hs.out; rwa [List.length_cons] at this) (by intro hh; first | rfl | exact if_neg hh | exact absurd (by assumption) hh | exact absurd hh (by assumption))), Lib.hid (by rw [← hj.out, jn_eq HQ1.out HQ2.out HQ3.out, jn_move, HL.out]; simp), HOZ, BZ, Lib.hid (by have := hlen.out; simp only [List.length_append, List.length_cons, List.length_nil] at this ⊢; omega)⟩
                    · have te : eqRb (plC x).n.p.a (plC x).n.p.l (plC x).n.m (plC x).n.o0 (plC x).n.o1 (plC x).n.h0 (plC x).n.h1 (plC y).o.p.a (plC y).o.p.l (plC y).o.m (plC y).o.o0 (plC y).o.o1 (plC y).o.h0 (plC y).o.h1 = false := by rw [eqRb_of]; simpa using hq3
                      have HJ := Lib.hid (show jn xs ys = none by rw [← hj.out, jn_no HQ1.out HQ2.out hq3]; rfl)
                      clear hq3
                      go_wp2_with (first | (refine wpList_storeC (x := plC x) rfl (.tmp 9) (.tmp 44) rfl rfl g8 rfl rfl _ G8.out rfl ?_; intro w5 hz5 hb5 hk5 hs5; have Z8 := Lib.hid hz5; have G95 := Lib.hid ((hk5 g9 (fun e => GN.out.1 e.symm)).trans G9.out); have B5 := Lib.hid (BT.out.trans (hb5 _ GN.out.2.1)); have HO5 := Lib.hid (HOT.out.kept (grown_of hk5 hs5 (hb5 0 (Nat.zero_le _)) : w2.grownBy w5 (some g8)) (.inr GK.out.1)); clear hz5 hb5 hk5 hs5) | (refine wpList_storeC (x := plC y) rfl (.tmp 10) (.tmp 48) rfl rfl g9 rfl rfl _ G95.out rfl ?_; intro w6 hz6 hb6 hk6 hs6; have Y8 := Lib.hid ((hk6 g8 GN.out.1).trans Z8.out); have Y9 := Lib.hid hz6; have B6 := Lib.hid (B5.out.trans (hb6 _ GN.out.2.2)); have HO6 := Lib.hid (HO5.out.kept (grown_of hk6 hs6 (hb6 0 (Nat.zero_le _)) : w5.grownBy w6 (some g9)) (.inr GK.out.2)); have m8 := cells15 (show w6.heap[g8]? = some (.cells #[.int .i64 (plC x).k, .int .u32 (plC x).o.p.a, .int .i64 (plC x).o.p.l, .int .i64 (plC x).o.m, .int .u64 (plC x).o.o0, .int .u64 (plC x).o.o1, .int .u64 (plC x).o.h0, .int .u64 (plC x).o.h1, .int .u32 (plC x).n.p.a, .int .i64 (plC x).n.p.l, .int .i64 (plC x).n.m, .int .u64 (plC x).n.o0, .int .u64 (plC x).n.o1, .int .u64 (plC x).n.h0, .int .u64 (plC x).n.h1] 42 (0, 0)) from Y8.out); have m9 := cells15 (show w6.heap[g9]? = some (.cells #[.int .i64 (plC y).k, .int .u32 (plC y).o.p.a, .int .i64 (plC y).o.p.l, .int .i64 (plC y).o.m, .int .u64 (plC y).o.o0, .int .u64 (plC y).o.o1, .int .u64 (plC y).o.h0, .int .u64 (plC y).o.h1, .int .u32 (plC y).n.p.a, .int .i64 (plC y).n.p.l, .int .i64 (plC y).n.m, .int .u64 (plC y).n.o0, .int .u64 (plC y).n.o1, .int .u64 (plC y).n.h0, .int .u64 (plC y).n.h1] 42 (0, 0)) from hz6); clear hz6 hb6 hk6 hs6))
                      go_ret2
                      exact ⟨.inr (.inl ⟨SS.out, HJ.out, rfl⟩), B6.out⟩

end Go.Proofs.Ytpnhkniegjfncaa
