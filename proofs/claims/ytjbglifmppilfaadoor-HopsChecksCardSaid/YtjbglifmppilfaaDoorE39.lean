/- The tied card of HopsChecks is proved: HopsChecks returns true for every tree and leaves it as it is; no condition but the laid table. -/
import Derived.Test.YtjbglifmppilfaaDoorE38
import Derived.Test.YtjbglifmppilfaaDoorTie
import Derived.Test.YtjbglifmppilfaaDoorCards
import Derived.ProofKit
import Derived.LaidMore
import Derived.OpenShut
import Derived.ShutString
import Derived.ChangeOld
import Derived.Stop.Joined
import Derived.SizedLaws
import Derived.Deep.Slices
import Derived.Lib.LaidTab
import Derived.SevenTiedAt
namespace Go.Proofs.YtjbglifmppilfaaDoor
open Go.ChangeShapes Go.WideShapes Go.ChangeAt Go.RowKit Go.Deep
set_option linter.unusedVariables false
set_option linter.unusedSimpArgs false
theorem own0 : ownKnob Tryd.prog.godebug = none := by kernel_rfl
theorem laidOut0 : laidOutB Tryd.prog = true := by kernel_rfl
theorem ce3 : Tryd.prog.cellsOf 3 = 1 := by kernel_rfl
theorem ce22 : Tryd.prog.cellsOf 22 = 1 := by kernel_rfl
theorem ce23 : Tryd.prog.cellsOf 23 = 1 := by kernel_rfl
theorem ce25 : Tryd.prog.cellsOf 25 = 4 := by kernel_rfl
theorem ce33 : Tryd.prog.cellsOf 33 = 1 := by kernel_rfl
theorem ce35 : Tryd.prog.cellsOf 35 = 2 := by kernel_rfl
theorem by3 : Tryd.prog.bytesOf 3 = 8 := by kernel_rfl
theorem by35 : Tryd.prog.bytesOf 35 = 16 := by kernel_rfl
theorem gTab : Tryd.prog.globalNamed "math/bits.deBruijn64tab" = some 0 := by kernel_rfl
theorem tabL : Rows.hopsChecksRow.laid = [("math/bits.deBruijn64tab", Lib.tabData .u8 (tabZ.map Int.ofNat))] := by kernel_rfl
theorem pick {α : Type} {n : Nat} {p : Nat → α → Prop} (h : ∀ i, i < n → ∃ a, p i a) : ∃ xs : List α, xs.length = n ∧ ∀ i x, xs[i]? = some x → p i x := by
  induction n with
  | zero => exact ⟨[], rfl, fun i x hx => by simp at hx⟩
  | succ n ih =>
    obtain ⟨xs, hl, hx⟩ := ih (fun i hi => h i (by omega))
    obtain ⟨a, ha⟩ := h n (by omega)
    refine ⟨xs ++ [a], by simp [hl], fun i x hi => ?_⟩
    by_cases hin : i < n
    · exact hx i x (by rwa [List.getElem?_append_left (by omega)] at hi)
    · have hlt := (List.getElem?_eq_some_iff.1 hi).1
      simp only [List.length_append, List.length_cons, List.length_nil] at hlt
      obtain rfl : i = n := by omega
      rw [List.getElem?_append_right (by omega), hl] at hi
      simp at hi
      subst hi
      exact ha
theorem spot0 {w : World} {a : Addr} {m base : Nat} {cs : List Value} (hm : 0 < m) (h : w.cells? base (a.add (0 * m)) m = some cs) : ∃ b o, a = ⟨b, o, none⟩ := by
  obtain ⟨_, hl, hx⟩ := World.cells?_some h
  obtain ⟨b, off, spot⟩ := a
  have := hx 0 hm
  rw [List.getElem?_eq_getElem (by omega)] at this
  have hspot : spot = none := by simpa [Addr.add] using World.cell?_spot this
  subst hspot
  exact ⟨b, off, rfl⟩
theorem at_add {w : World} {b o m base i : Nat} {cs : List Value} (h : w.cells? base (Addr.add ⟨b, o, none⟩ (i * m)) m = some cs) : ∀ k u, cs[k]? = some u → w.cell? ⟨b, o + i * m + k, none⟩ = some u := by
  obtain ⟨_, hl, hx⟩ := World.cells?_some h
  intro k u hu
  have hk : k < m := by have := (List.getElem?_eq_some_iff.1 hu).1; omega
  have := hx k hk
  rwa [hu, Addr.add_lit, Addr.add_lit] at this
section
variable {H : Type} {enc : TypeId × Value → H} {w : World} {base : Nat} {spare : Nat → Bool} {held : Bool} {fuel : Nat} {cs : List Value} {x : DataW H × List MemPlace}
theorem t3 (h : DataW.trod enc Tryd.prog w base spare held fuel 3 cs = some x) : ∃ z : Int, cs = cI z := by
  obtain ⟨a, ha, _, wa⟩ := DataW.trod_int Tryd.underlying3 h
  exact ⟨a, ha⟩
set_option maxRecDepth 100000 in
theorem t35 (h : DataW.trod enc Tryd.prog w base spare held fuel 35 cs = some x) : ∃ M : Nat, cs = cM M ∧ M < 2 ^ 128 := by
  obtain ⟨xs, n, _, _, hl, hn, hx⟩ := DataW.trod_array Tryd.underlying35 h
  have e0 := hx 0 (by omega)
  have e1 := hx 1 (by omega)
  rw [ce35] at hl
  match cs, hl with
  | [c0, c1], _ =>
    rw [ce33] at e0 e1
    rw [List.getElem?_eq_getElem (by rw [hn]; decide)] at e0 e1
    obtain ⟨a, ha, _, wa⟩ := DataW.trod_int Tryd.underlying33 e0
    obtain ⟨b, hb, _, wb⟩ := DataW.trod_int Tryd.underlying33 e1
    simp only [Nat.zero_mul, Nat.one_mul, List.drop_zero, List.drop_succ_cons, List.take_succ_cons, List.take_zero, List.cons.injEq, and_true] at ha hb
    subst ha hb
    have ra : 0 ≤ a ∧ a ≤ 18446744073709551615 := by simpa [Lit.wf, IntKind.min, IntKind.max, IntKind.bits, IntKind.signed] using wa
    have rb : 0 ≤ b ∧ b ≤ 18446744073709551615 := by simpa [Lit.wf, IntKind.min, IntKind.max, IntKind.bits, IntKind.signed] using wb
    obtain ⟨p, rfl⟩ : ∃ p : Nat, a = (p : Int) := ⟨a.toNat, by omega⟩
    obtain ⟨q, rfl⟩ : ∃ q : Nat, b = (q : Int) := ⟨b.toNat, by omega⟩
    have h1 : (p + q * 18446744073709551616) % 18446744073709551616 = p := by omega
    have h2 : (p + q * 18446744073709551616) / 18446744073709551616 = q := by omega
    refine ⟨p + q * 18446744073709551616, ?_, by rw [show (2 : Nat) ^ 128 = 340282366920938463463374607431768211456 by decide]; omega⟩
    show [Value.int .u64 (p : Int), Value.int .u64 (q : Int)] = [Value.int .u64 (((p + q * 18446744073709551616) % 18446744073709551616 : Nat) : Int), Value.int .u64 (((p + q * 18446744073709551616) / 18446744073709551616 : Nat) : Int)]
    rw [h1, h2]
/-- A SLICE OF NUMBERS THAT CAME IN -/
theorem open_I (h : DataW.trod enc Tryd.prog w base spare held fuel 22 cs = some x) :
    ∃ (v : Value) (xs : List Int), cs = [v] ∧ Sl cI 1 0 w v xs ∧ (xs = [] ∨ ∃ L S, x.1 = .slice L S ∧ L.length = xs.length) := by
  rcases open_slice Tryd.underlying22 h with ⟨rfl, _⟩ | ⟨a', len', cap', m, n, D, Pl, rfl, _, hl, hm, hmm, hxx, hel⟩
  · exact ⟨_, [], rfl, Sl.nil, .inl rfl⟩
  · rw [ce3] at hel
    obtain ⟨xs, hlen, hx⟩ := pick (n := len') (p := fun i (r : Int) => w.cells? base (a'.add (i * 1)) 1 = some (cI r)) (fun i hi => by
      obtain ⟨cs', h1, h2⟩ := hel i (by rw [hmm]; split <;> omega)
      obtain ⟨r, rfl⟩ := t3 h2
      exact ⟨r, h1⟩)
    refine ⟨_, xs, rfl, ⟨some a', cap', by rw [hlen], fun i r hr => ?_, fun h => (by cases h), fun _ _ => Nat.zero_le _, by omega⟩, .inr ⟨_, _, by rw [hxx], by simp [hlen]⟩⟩
    have hi := (List.getElem?_eq_some_iff.1 hr).1
    obtain ⟨r0', hr0⟩ : ∃ r, xs[0]? = some r := ⟨_, List.getElem?_eq_getElem (by omega)⟩
    obtain ⟨b, o, rfl⟩ := spot0 (by omega) (hx 0 _ hr0)
    exact ⟨b, o, rfl, at_add (hx i r hr)⟩
/-- A SLICE OF SETS THAT CAME IN -/
theorem open_M (h : DataW.trod enc Tryd.prog w base spare held fuel 23 cs = some x) :
    ∃ (v : Value) (xs : List Nat), cs = [v] ∧ Sl cM 2 0 w v xs ∧ allM xs ∧ (xs = [] ∨ ∃ L S, x.1 = .slice L S ∧ L.length = xs.length) := by
  rcases open_slice Tryd.underlying23 h with ⟨rfl, _⟩ | ⟨a', len', cap', m, n, D, Pl, rfl, _, hl, hm, hmm, hxx, hel⟩
  · exact ⟨_, [], rfl, Sl.nil, fun h hh => (by cases hh), .inl rfl⟩
  · rw [ce35] at hel
    obtain ⟨xs, hlen, hx⟩ := pick (n := len') (p := fun i (r : Nat) => r < 2 ^ 128 ∧ w.cells? base (a'.add (i * 2)) 2 = some (cM r)) (fun i hi => by
      obtain ⟨cs', h1, h2⟩ := hel i (by rw [hmm]; split <;> omega)
      obtain ⟨r, rfl, hf⟩ := t35 h2
      exact ⟨r, hf, h1⟩)
    refine ⟨_, xs, rfl, ⟨some a', cap', by rw [hlen], fun i r hr => ?_, fun h => (by cases h), fun _ _ => Nat.zero_le _, by omega⟩, fun r hr => ?_, .inr ⟨_, _, by rw [hxx], by simp [hlen]⟩⟩
    · have hi := (List.getElem?_eq_some_iff.1 hr).1
      obtain ⟨r0', hr0⟩ : ∃ r, xs[0]? = some r := ⟨_, List.getElem?_eq_getElem (by omega)⟩
      obtain ⟨b, o, rfl⟩ := spot0 (by omega) (hx 0 _ hr0).2
      exact ⟨b, o, rfl, at_add (hx i r hr).2⟩
    · obtain ⟨i, hi⟩ := List.getElem?_of_mem hr
      exact (hx i r hi).1
end
theorem tab_of {W : World} (h : laidMetH Tryd.prog Rows.hopsChecksRow.laid W) : Tab W := by
  rw [MakeChecks.laidMetH_plain _ _ _ (by kernel_rfl), tabL] at h
  have hT := Lib.tabIs_of_head gTab (t := 105) (e := 5) (n := 64) (by kernel_rfl) (by kernel_rfl) (by kernel_rfl) (by kernel_rfl) (by kernel_rfl) h
  intro i hi
  have := hT.cell gTab i (by rw [List.length_map]; exact hi)
  rw [this]
  have e : ∀ j, j < 64 → (tabZ.map Int.ofNat).getD j 0 = ((tabZ.getD j 0 : Nat) : Int) := by decide +kernel
  rw [e i hi]
theorem weigh (t e : TypeId) {H : Type} {d : DataW H} {L S : List (DataW H)} (he : Tryd.prog.underlying t = some (.slice e)) (hd : d = .slice L S) : (L.length + S.length) * Tryd.prog.bytesOf e ∈ d.weights Tryd.prog t := by
  subst hd
  simp [DataW.weights, he]
theorem sz_part {H : Type} {d0 : DataW H} {xs : List (DataW H × List MemPlace)} {fs : Array Field} (h : (DataW.weightsEach Tryd.prog [25] [d0]).all (· ≤ reachBytes) = true) (h0 : d0 = .agg (xs.map (·.1))) (hu : Tryd.prog.underlying 25 = some (.struct fs)) {j : Nat} {f : Field} {y : DataW H × List MemPlace} (hf : fs[j]? = some f) (hy : xs[j]? = some y) {n : Nat} (hn : n ∈ y.1.weights Tryd.prog f.type) : n ≤ reachBytes := by
  subst h0
  have h1 : n ∈ DataW.weights Tryd.prog 25 (.agg (xs.map (·.1))) := by
    simp only [DataW.weights, hu]
    exact DataW.weights_mem_each (j := j) (by simp [hf]) (by simp [hy]) n hn
  have h2 := List.all_eq_true.1 h n (DataW.weights_mem_each (j := 0) rfl rfl n h1)
  simpa using h2
set_option maxRecDepth 100000 in
theorem tv_of {H : Type} {enc : TypeId × Value → H} {W : World} {m : Nat} {cs : Array Value} {d0 : DataW H} {p0 : List MemPlace} (h : DataW.trod enc Tryd.prog W 0 (fun _ => true) true m 25 cs.toList = some (d0, p0)) (hsz : (DataW.weightsEach Tryd.prog [25] [d0]).all (· ≤ reachBytes) = true) : ∃ r ds ps hs, TV W (.agg cs) r ds ps hs := by
  obtain ⟨xs, n, _, hd, hl, hn, hx⟩ := DataW.trod_struct Tryd.underlying25 h
  have e0 : DataW.trod enc Tryd.prog W 0 (fun _ => true) true n 3 ((cs.toList.drop 0).take (Tryd.prog.cellsOf 3)) = xs[0]? := hx 0 _ rfl
  have e1 : DataW.trod enc Tryd.prog W 0 (fun _ => true) true n 22 ((cs.toList.drop 1).take (Tryd.prog.cellsOf 22)) = xs[1]? := hx 1 _ rfl
  have e2 : DataW.trod enc Tryd.prog W 0 (fun _ => true) true n 23 ((cs.toList.drop 2).take (Tryd.prog.cellsOf 23)) = xs[2]? := hx 2 _ rfl
  have e3 : DataW.trod enc Tryd.prog W 0 (fun _ => true) true n 23 ((cs.toList.drop 3).take (Tryd.prog.cellsOf 23)) = xs[3]? := hx 3 _ rfl
  have hn4 : xs.length = 4 := hn
  obtain ⟨y0, hy0⟩ : ∃ y, xs[0]? = some y := ⟨_, List.getElem?_eq_getElem (by omega)⟩
  obtain ⟨y1, hy1⟩ : ∃ y, xs[1]? = some y := ⟨_, List.getElem?_eq_getElem (by omega)⟩
  obtain ⟨y2, hy2⟩ : ∃ y, xs[2]? = some y := ⟨_, List.getElem?_eq_getElem (by omega)⟩
  obtain ⟨y3, hy3⟩ : ∃ y, xs[3]? = some y := ⟨_, List.getElem?_eq_getElem (by omega)⟩
  rw [hy0, ce3] at e0
  rw [hy1, ce22] at e1
  rw [hy2, ce23] at e2
  rw [hy3, ce23] at e3
  rw [ce25] at hl
  obtain ⟨l⟩ := cs
  match l, hl with
  | [c0, c1, c2, c3], _ =>
    obtain ⟨r, h0⟩ := t3 e0
    obtain ⟨v1, ds, h1, s1, w1⟩ := open_I e1
    obtain ⟨v2, ps, h2, s2, b2, w2⟩ := open_M e2
    obtain ⟨v3, hs, h3, s3, b3, w3⟩ := open_M e3
    simp only [cI, List.drop_zero, List.drop_succ_cons, List.take_succ_cons, List.take_zero, List.cons.injEq, and_true] at h0 h1 h2 h3
    subst h0 h1 h2 h3
    have hd0 : d0 = .agg (xs.map (·.1)) := (Prod.mk.inj hd).1
    refine ⟨r, ds, ps, hs, ⟨_, _, _, rfl, s1, s2, s3⟩, b2, b3, ?_, ?_, ?_⟩
    · rcases w1 with rfl | ⟨L, S, e, hL⟩
      · simp
      · have := sz_part hsz hd0 Tryd.underlying25 (j := 1) rfl hy1 (weigh 22 3 Tryd.underlying22 e)
        rw [by3] at this
        simp only [reachBytes] at this
        omega
    · rcases w2 with rfl | ⟨L, S, e, hL⟩
      · simp
      · have := sz_part hsz hd0 Tryd.underlying25 (j := 2) rfl hy2 (weigh 23 35 Tryd.underlying23 e)
        rw [by35] at this
        simp only [reachBytes] at this
        omega
    · rcases w3 with rfl | ⟨L, S, e, hL⟩
      · simp
      · have := sz_part hsz hd0 Tryd.underlying25 (j := 3) rfl hy3 (weigh 23 35 Tryd.underlying23 e)
        rw [by35] at this
        simp only [reachBytes] at this
        omega
namespace hopsChecks
set_option maxRecDepth 100000 in
theorem lifted (os : Os) (started : os.Started) (H : Type) (enc : TypeId × Value → H) :
    ReturnsInHanded {} Tryd.checked os 3 .any (fun w args => (Rows.hopsChecksSpec.pre enc Tryd.prog Tryd.f3 Rows.hopsChecksRow.domain false w args ∧ laidMetH Tryd.prog Rows.hopsChecksRow.laid w) ∧ sizedMet enc Tryd.prog Tryd.f3 (OpenSpec.ofChange Rows.hopsChecksSpec) false w args)
      (Rows.hopsChecksSpec.post enc Tryd.prog Tryd.f3 false true false false) := by
  refine returnsInHanded_of_change_and (C := Tryd.checked) (X := fun w _ => laidMetH Tryd.prog Rows.hopsChecksRow.laid w) (fun _ _ _ hh h => h.of_heap hh) own0 started (by kernel_rfl) Tryd.func3
    (ChangeSpec.witness_shaped (enc := enc) (C := Tryd.checked) (os := os) (X := fun w _ => laidMetH Tryd.prog Rows.hopsChecksRow.laid w) false (World.doorLaid Tryd.prog 14 os) #[.agg #[.int .i64 0, .slice none 0 0, .slice none 0 0, .slice none 0 0]] 8 rfl (World.shaped_of_RefB (by kernel_rfl) (by kernel_rfl)) (by kernel_rfl) (by kernel_rfl) (by kernel_rfl) (laidMetH_of_parts3 (fuel := 8) (laidMet_of_run' 8 (by kernel_rfl) (by kernel_rfl)) (by kernel_rfl) (by kernel_rfl))) ?_
  intro W base args ds gs before hval0 hW hcnd hsz0 hL _
  have hsz : (DataW.weightsEach Tryd.prog (Tryd.f3.params.toList ++ Rows.hopsChecksSpec.plain.varTypes Tryd.prog) (ds ++ gs)).all (· ≤ reachBytes) = true := hsz0
  clear hsz0
  have hval : ∀ (j : Nat) t v, Tryd.f3.params[j]? = some t → args[j]? = some v → Value.okWide Tryd.prog W .any base t v := hval0
  have hW' := hW
  obtain ⟨p, q, hA0, hV, rfl, hfz, hnd⟩ := hW
  have hA : DataW.TrodAll enc Tryd.prog W 0 (fun _ => true) true Tryd.f3.params.toList args.toList ds p := hA0
  rw [Tryd.params3] at hA hval hsz
  obtain ⟨v0, vs0, d0, ds0, p0, q0, hargs, rfl, rfl, h0, r0⟩ := trodAll_cons hA
  obtain ⟨rfl, rfl, rfl⟩ := trodAll_nil r0
  obtain rfl : args = #[v0] := by cases args; simp_all
  obtain ⟨rfl, rfl⟩ := trodVars_none hV
  have k0 := h0
  have lt0 : ∀ x ∈ p0, x.block < W.heap.size := by obtain ⟨m, hm⟩ := k0; exact DataW.trod_lt m _ _ _ hm
  obtain ⟨cs, rfl, hcs⟩ := okWide_struct Tryd.underlying25 (hval 0 25 v0 rfl rfl)
  obtain ⟨m, hm⟩ := h0
  have hm1 : DataW.trod enc Tryd.prog W 0 (fun _ => true) true m 25 cs.toList = some (d0, p0) := hm
  obtain ⟨r, ds, ps, hs, TX⟩ := tv_of hm1 hsz
  clear hA0 hval0
  refine (law3_ok W _ r ds ps hs TX (tab_of hL)).mono fun e W' ⟨he, bel⟩ => ?_
  subst he
  exact ⟨_, rfl, _, _, _, [], _, [], hW', trodAll_mk1 (shut_bool Tryd.underlying4 _), (trodAll_cons_mk (Below.trod laidOut0 (by kernel_rfl) (of_decide_eq_true (by kernel_rfl)) k0 bel lt0) trodAll_mk0), rfl, bel.frame _, fun h => by cases h⟩

theorem over : Rows.HopsChecksSaid :=
  OpenClaim.holds_of_wide 3 Tryd.f3 rfl rfl rfl rfl rfl rfl rfl ⟨rfl, rfl, rfl, rfl, rfl⟩ rfl rfl rfl rfl rfl (by kernel_rfl) Tryd.func3 (by kernel_rfl)
    (of_decide_eq_true (by kernel_rfl)) (by unfold Func.isWrapper; first | (rw [if_pos (by decide +kernel)]; kernel_rfl) | (rw [if_neg (by decide +kernel)]; exact ⟨rfl, rfl⟩))
    (fun os started H enc _ => lifted os started H enc)
/-- THE STATEMENT -/
theorem proved : Rows.HopsChecksCardSaid :=
  Claim7.holds_tied_plain_at .later [] [.data] true (true, "20f1b62bafe0e08d68a07eaea5b9441e46ed3ef4053adb8627ae8a91751806ff") false
    over (fun _ h => by cases h) (by kernel_rfl) (fun _ h => by cases h) hopsChecks_row_tie rfl ⟨rfl, rfl⟩ (by kernel_rfl) rfl
    (fun f fn hf hfn => by
      obtain rfl : f = 3 := Option.some.inj ((show Tryd.prog.funcNamed "causeway/causewaylaw09.HopsChecks" = some 3 by kernel_rfl).symm.trans hf) |>.symm
      obtain rfl : fn = Tryd.f3 := (Option.some.inj (Tryd.func3.symm.trans hfn)).symm
      exact ⟨by kernel_rfl, fun j t ht => by
        rw [Tryd.params3] at ht
        have hm : t ∈ [25] := by simpa using Array.mem_of_getElem? ht
        have hall : ([25].all fun u => !Tryd.prog.wantsStandIn u) = true := by kernel_rfl
        exact (show Tryd.prog.wantsStandIn t = false by simpa using List.all_eq_true.1 hall t hm)⟩)
    (by kernel_rfl)
end hopsChecks
end Go.Proofs.YtjbglifmppilfaaDoor
