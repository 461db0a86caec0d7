/- graph.Apply of a batch whose edits are known; conditions as stated. -/
import Derived.Test.YtpklcefiabjplaaG7
namespace Go.Proofs.Ytpklcefiabjplaa
open Go.ChangeShapes Go.WideShapes Go.ChangeAt Go.RowKit
set_option linter.unusedVariables false
set_option linter.unusedSimpArgs false
attribute [local go_sem] Og.Opt Og.OpY

structure Gr where
  ns : List Nd
  ls : List Lk
  ps : List Pn
def DoOk (x : Ed) (G G' : Gr) : Prop := ∀ (B h : Nat) (va vb vc : Value) (w : World), GS B w h va vb vc G.ns G.ls G.ps → Calls Try.prog 33 #[.pointer (some ⟨h, 0, none⟩), .agg (cEd x).toArray] w fun e w' => e = .returned (.int .i64 0) ∧ (∃ va' vb' vc', GS B w' h va' vb' vc' G'.ns G'.ls G'.ps) ∧ Below B w w'
def DoErr (x : Ed) (G : Gr) (r : Int) : Prop := ∀ (B h : Nat) (va vb vc : Value) (w : World), GS B w h va vb vc G.ns G.ls G.ps → Calls Try.prog 33 #[.pointer (some ⟨h, 0, none⟩), .agg (cEd x).toArray] w fun e w' => e = .returned (.int .i64 r) ∧ (∃ (va' vb' vc' : Value) (G' : Gr), GS B w' h va' vb' vc' G'.ns G'.ls G'.ps) ∧ Below B w w'
inductive Res where
  | ok (G : Gr) : Res
  | err (k : Nat) (c : Int) : Res
inductive Runs : Nat → Gr → List Ed → Res → Prop where
  | nil {k : Nat} {G : Gr} : Runs k G [] (.ok G)
  | cons {k : Nat} {G G' : Gr} {x : Ed} {xs : List Ed} {r : Res} : DoOk x G G' → Runs (k + 1) G' xs r → Runs k G (x :: xs) r
  | err {k : Nat} {G : Gr} {x : Ed} {xs : List Ed} {c : Int} : DoErr x G c → c ≠ 0 → Runs k G (x :: xs) (.err k c)
/-- what Apply answers -/
def Ans (B : Nat) (w' : World) (e : Ending) : Res → Prop
  | .ok G => ∃ ua ub uc, e = .returned (.tuple #[.agg #[ua, ub, uc], .int .i64 0, .int .i64 0]) ∧ w'.ownsRow B 41 3 ua G.ns.length (G.ns.flatMap cNd) ∧ w'.ownsRow B 43 4 ub G.ls.length (G.ls.flatMap cLk) ∧ w'.ownsRow B 49 4 uc G.ps.length (G.ps.flatMap cPn)
  | .err k c => e = .returned (.tuple #[.agg #[.slice none 0 0, .slice none 0 0, .slice none 0 0], .int .i64 (k : Int), .int .i64 c])
theorem GS.cells {B : Nat} {w : World} {h : Nat} {va vb vc : Value} {ns : List Nd} {ls : List Lk} {ps : List Pn} (g : GS B w h va vb vc ns ls ps) : w.cell? ⟨h, 0, none⟩ = some va ∧ w.cell? ⟨h, 1, none⟩ = some vb ∧ w.cell? ⟨h, 2, none⟩ = some vc := ⟨by simp [World.cell?, g.hh], by simp [World.cell?, g.hh], by simp [World.cell?, g.hh]⟩

set_option maxRecDepth 100000 in
set_option maxHeartbeats 8000000 in
theorem Apply_ok (ns : List Nd) (ls : List Lk) (ps : List Pn) (xs : List Ed) (R : Res) (va vb vc ve : Value) (w : World) (sa : Sl cNd 3 0 w va ns) (sb : Sl cLk 4 0 w vb ls) (sc : Sl cPn 4 0 w vc ps) (se : Sl cEd 9 0 w ve xs) (hG : SndG ns ls ps) (hn : ns.length ≤ 128) (hx : xs.length ≤ 256) (hR : Runs 0 ⟨ns, ls, ps⟩ xs R) :
    Calls Try.prog 12 #[.agg #[va, vb, vc], ve] w fun e w' => Ans w.heap.size w' e R ∧ Below w.heap.size w w' := by
  obtain ⟨A, c, rfl, hrd, _⟩ := se
  obtain ⟨n, hn2⟩ : ∃ n, n = xs.length := ⟨_, rfl⟩
  rw [← hn2] at hx ⊢
  have hx2 : (n : Int) ≤ 256 := by omega
  have HN := Lib.hid hn2
  have HRD := Lib.hid hrd
  have HR := Lib.hid hR
  have H14 : Hid (∀ w2, Below w.heap.size w w2 → Calls Try.prog 14 #[.agg #[va, vb, vc]] w2 fun e w' => e = .returned (.int .i64 0) ∧ Below w2.heap.size w2 w') := Lib.hid fun w2 hb => Check_ok ns ls ps va vb vc w2 (sa.below hb) (sb.below hb) (sc.below hb) hG hn
  have H32 : Hid (∀ w2, Below w.heap.size w w2 → Calls Try.prog 32 #[.agg #[va, vb, vc]] w2 fun e w' => (∃ ua ub uc, e = .returned (.agg #[ua, ub, uc]) ∧ w'.ownsRow w2.heap.size 41 3 ua ns.length (ns.flatMap cNd) ∧ w'.ownsRow w2.heap.size 43 4 ub ls.length (ls.flatMap cLk) ∧ w'.ownsRow w2.heap.size 49 4 uc ps.length (ps.flatMap cPn)) ∧ Below w2.heap.size w2 w') := Lib.hid fun w2 hb => clone_ok ns ls ps va vb vc w2 (sa.below hb) (sb.below hb) (sc.below hb) hn hG.ll hG.pl
  have Z : Hid (∀ w2, Below ((w.alloc (.cells #[va, vb, vc] 33)).alloc (.cells #[.slice none 0 0, .slice none 0 0, .slice none 0 0] 33)).heap.size ((w.alloc (.cells #[va, vb, vc] 33)).alloc (.cells #[.slice none 0 0, .slice none 0 0, .slice none 0 0] 33)) w2 → w2.heap[w.heap.size]? = some (.cells #[va, vb, vc] 33 (0, 0)) ∧ w2.heap[w.heap.size + 1]? = some (.cells #[.slice none 0 0, .slice none 0 0, .slice none 0 0] 33 (0, 0))) := Lib.hid fun w2 hb => ⟨heap_keep hb (heap_keep ((Below.refl _ _).alloc (Nat.le_refl _) _) (heap_at rfl)), heap_keep hb (heap_at (by simp))⟩
  clear sa sb sc hG hn hR hrd hn2
  go_enter Try.func12, Try.ntmps12
  go_wp2_with fail
  refine (H14.out _ (((Below.refl _ _).alloc (Nat.le_refl _) _).alloc (by simp) _)).mono ?_
  rintro e w1 ⟨rfl, hb1⟩
  have Z1 := Lib.hid (Z.out _ hb1)
  have B1 := Lib.hid (bthen' (((Below.refl w.heap.size w).alloc (Nat.le_refl _) (.cells #[va, vb, vc] 33)).alloc (by simp) (.cells #[.slice none 0 0, .slice none 0 0, .slice none 0 0] 33)) (by simp <;> omega) hb1)
  have y0 : w1.cell? ⟨w.heap.size, 0, none⟩ = some va := by simp [World.cell?, Z1.out.1]
  have y1 : w1.cell? ⟨w.heap.size, 1, none⟩ = some vb := by simp [World.cell?, Z1.out.1]
  have y2 : w1.cell? ⟨w.heap.size, 2, none⟩ = some vc := by simp [World.cell?, Z1.out.1]
  clear hb1
  go_wp2_with fail
  refine (H32.out _ B1.out).mono ?_
  rintro e w2 ⟨⟨ua, ub, uc, rfl, o1, o2, o3⟩, hb2⟩
  have Z2 := Lib.hid (heap_keep hb2 Z1.out.2)
  have B2 := Lib.hid (bthen' B1.out B1.out.size hb2)
  have hlt1 : w.heap.size + 1 < w1.heap.size := (Array.getElem?_eq_some_iff.1 Z1.out.2).1
  obtain ⟨A1, c1, hv1, _⟩ := Sl_of_row cNd_len (by omega) o1 rfl
  obtain ⟨A2, c2, hv2, _⟩ := Sl_of_row cLk_len (by omega) o2 rfl
  obtain ⟨A3, c3, hv3, _⟩ := Sl_of_row cPn_len (by omega) o3 rfl
  subst hv1 hv2 hv3
  have O1 := Lib.hid (And.intro (own_lower o1 B1.out.size) (And.intro (own_lower o2 B1.out.size) (own_lower o3 B1.out.size)))
  clear o1 o2 o3 hb2 y0 y1 y2
  go_wp2_with (refine wpList_storeN rfl 33 (.tmp 4) (.tmp 22) rfl rfl (w.heap.size + 1) #[.slice A1 ns.length c1, .slice A2 ls.length c2, .slice A3 ps.length c3] rfl rfl 33 _ Z2.out info33s rfl (by simp [Value.oneCell']) ?_; intro w3 hz hb ho hs; have HST := Lib.hid (And.intro hz (And.intro (hb w.heap.size (by omega)) (And.intro ho hs))); clear hz hb ho hs)
  obtain ⟨HZ3, HB3, HO3, HS3⟩ := HST.out
  have hk3 : w2.grownBy w3 (some (w.heap.size + 1)) := ⟨HB3.os, HB3.tape, HB3.output, by omega, fun j hj hne => HO3 j (fun e => hne (by rw [e]))⟩
  have key : ∀ {e m n : Nat} {v : Value} {xs : List Value}, w2.ownsRow w.heap.size e m v n xs → e ≠ 33 → w3.ownsRow w.heap.size e m v n xs := fun {e m n v xs} o he => o.kept hk3 (by
    cases hv : v.ownBlock with
    | none => exact .inl rfl
    | some g => exact .inr (fun e => by cases e; exact own_at o Z2.out he hv))
  have G0' : Hid (GS w.heap.size w3 (w.heap.size + 1) (.slice A1 ns.length c1) (.slice A2 ls.length c2) (.slice A3 ps.length c3) ns ls ps) := Lib.hid ⟨by omega, HZ3, key O1.out.1 (by decide), key O1.out.2.1 (by decide), key O1.out.2.2 (by decide)⟩
  have B3 : Hid (Below w.heap.size w w3) := Lib.hid (B2.out.trans HB3)
  clear key hk3 HZ3 HB3 HO3 HS3 HST O1 Z1 Z2 hlt1 B1 B2
  go_loopw [25] (fun i wr => ∃ (k : Nat) (G : Gr) (va' vb' vc' : Value), k ≤ n ∧ i = .int .i64 k ∧ Hid (Runs k G (xs.drop k) R) ∧ Hid (GS w.heap.size wr (w.heap.size + 1) va' vb' vc' G.ns G.ls G.ps) ∧ Hid (Below w.heap.size w wr)) (fun i _ => n - (intOf i).toNat)
  case atStart => exact ⟨0, ⟨ns, ls, ps⟩, _, _, _, Nat.zero_le _, rfl, HR, G0', B3⟩
  case round =>
    obtain ⟨k, G, va', vb', vc', hk, rfl, hr, hg, hbw⟩ := hrel
    clear G0' B3
    by_cases hlt : k < n
    · obtain ⟨x, hx⟩ : ∃ r, xs[k]? = some r := ⟨_, List.getElem?_eq_getElem (by rw [← HN.out]; exact hlt)⟩
      have hd : xs.drop k = x :: xs.drop (k + 1) := by
        obtain ⟨h, e⟩ := List.getElem?_eq_some_iff.1 hx
        rw [← e]; exact List.drop_eq_getElem_cons h
      obtain ⟨b, o, rfl, hat⟩ := (HRD.out.below hbw.out) k x hx
      have HX := Lib.hid hat
      have hwk : IntKind.i64.wrap (k : Int) = k := wrapk (by omega)
      have hwk1 : IntKind.i64.wrap ((k : Int) + 1) = (k : Int) + 1 := by rw [IntKind.wrap_i64]; omega
      have hk0 : (0 : Int) ≤ (k : Int) := by omega
      have hkn : (k : Int) < (n : Int) := by omega
      have hr2 := hr.out
      rw [hd] at hr2
      clear hx hat hd hr
      generalize hxd : xs.drop (k + 1) = xd at hr2
      generalize hxk : x :: xd = xl at hr2
      cases hr2 with
      | nil => cases hxk
      | cons h1 h2 =>
        cases hxk
        subst hxd
        go_wp2_with (first | (refine wpList_loadL rfl 53 (.tmp 28) rfl b (o + k * 9) (.agg (cEd x).toArray) rfl (run_loadL isAgg53 size53 rfl HX.out) ?_) | (refine wpList_storeN rfl 53 (.tmp 9) (.tmp 29) rfl rfl wr.heap.size (cEd x).toArray rfl rfl 53 _ (heap_at rfl) info53s rfl (by simp [cEd, Value.oneCell']) ?_; intro w5 hz hb ho hs; have HZ := Lib.hid (AtL_heap (cs := cEd x) hz); have b1 := below_storeA hb; have B5 := Lib.hid b1; clear hz hb ho hs b1) | (refine wpList_loadL rfl 53 (.tmp 9) rfl wr.heap.size 0 (.agg (cEd x).toArray) rfl (run_loadL isAgg53 size53 rfl HZ.out) ?_))
        refine (h1 w.heap.size (w.heap.size + 1) va' vb' vc' _ (hg.out.below B5.out)).mono ?_
        rintro e w6 ⟨rfl, ⟨xa, xb, xc, g6⟩, b6⟩
        have B6 := Lib.hid ((hbw.out.trans (B5.out.mono hbw.out.size)).trans b6)
        have G6' := Lib.hid g6
        have HR2 := Lib.hid h2
        clear b6 g6 h1 h2
        go_wp2_with fail
        go_roundw
        case rel => exact ⟨k + 1, _, _, _, _, by omega, by go_num, HR2, G6', B6⟩
        case measure => simp [intOf]; omega
      | @err _ _ _ _ cc h1 h2 =>
        cases hxk
        subst hxd
        have tcc : decide (cc = 0) = false := decide_eq_false h2
        go_wp2_with (first | (refine wpList_loadL rfl 53 (.tmp 28) rfl b (o + k * 9) (.agg (cEd x).toArray) rfl (run_loadL isAgg53 size53 rfl HX.out) ?_) | (refine wpList_storeN rfl 53 (.tmp 9) (.tmp 29) rfl rfl wr.heap.size (cEd x).toArray rfl rfl 53 _ (heap_at rfl) info53s rfl (by simp [cEd, Value.oneCell']) ?_; intro w5 hz hb ho hs; have HZ := Lib.hid (AtL_heap (cs := cEd x) hz); have b1 := below_storeA hb; have B5 := Lib.hid b1; clear hz hb ho hs b1) | (refine wpList_loadL rfl 53 (.tmp 9) rfl wr.heap.size 0 (.agg (cEd x).toArray) rfl (run_loadL isAgg53 size53 rfl HZ.out) ?_))
        refine (h1 w.heap.size (w.heap.size + 1) va' vb' vc' _ (hg.out.below B5.out)).mono ?_
        rintro e w6 ⟨rfl, ⟨xa, xb, xc, G7, g6⟩, b6⟩
        have B6 := Lib.hid ((hbw.out.trans (B5.out.mono hbw.out.size)).trans b6)
        have hh6 := Lib.hid g6.hh
        clear b6 g6 h1
        go_wp2_with (refine wpList_storeN rfl 33 (.tmp 4) (.tmp 34) rfl rfl (w.heap.size + 1) #[.slice none 0 0, .slice none 0 0, .slice none 0 0] rfl rfl 33 _ hh6.out info33s rfl (by simp [Value.oneCell']) ?_; intro w7 hz hb ho hs; have hz7 := Lib.hid hz; have b7 := Lib.hid (hb w.heap.size (by omega)); clear hz hb ho hs)
        have z0 : w7.cell? ⟨w.heap.size + 1, 0, none⟩ = some (.slice none 0 0) := by simp [World.cell?, hz7.out]
        have z1 : w7.cell? ⟨w.heap.size + 1, 1, none⟩ = some (.slice none 0 0) := by simp [World.cell?, hz7.out]
        have z2 : w7.cell? ⟨w.heap.size + 1, 2, none⟩ = some (.slice none 0 0) := by simp [World.cell?, hz7.out]
        refine bodyPost_ret (v := .tuple #[.agg #[.slice none 0 0, .slice none 0 0, .slice none 0 0], .int .i64 (k : Int), .int .i64 cc]) (by simp [results, Try.f12, go_sem, z0, z1, z2]) rfl ⟨rfl, B6.out.trans b7.out⟩
    · have hkn : k = n := by omega
      subst hkn
      have hr2 := hr.out
      rw [List.drop_of_length_le (by rw [← HN.out]; exact Nat.le_refl _)] at hr2
      cases hr2
      obtain ⟨B1', s1', hv1, _⟩ := Sl_of_row cNd_len (by omega) hg.out.na rfl
      obtain ⟨B2', s2', hv2, _⟩ := Sl_of_row cLk_len (by omega) hg.out.la rfl
      obtain ⟨B3', s3', hv3, _⟩ := Sl_of_row cPn_len (by omega) hg.out.pa rfl
      subst hv1 hv2 hv3
      clear hlt hk
      obtain ⟨y0, y1, y2⟩ := hg.out.cells
      go_wp2_with (refine wpList_storeN rfl 33 (.tmp 4) (.tmp 38) rfl rfl (w.heap.size + 1) #[.slice B1' G.ns.length s1', .slice B2' G.ls.length s2', .slice B3' G.ps.length s3'] rfl rfl 33 _ hg.out.hh info33s rfl (by simp [Value.oneCell']) ?_; intro w7 hz hb ho hs; have HST := Lib.hid (And.intro hz (And.intro (hb w.heap.size (by omega)) (And.intro ho hs))); clear hz hb ho hs)
      obtain ⟨HZ3, HB3, HO3, HS3⟩ := HST.out
      have hk3 : wr.grownBy w7 (some (w.heap.size + 1)) := ⟨HB3.os, HB3.tape, HB3.output, by omega, fun j hj hne => HO3 j (fun e => hne (by rw [e]))⟩
      have key : ∀ {e m n : Nat} {v : Value} {xs : List Value}, wr.ownsRow w.heap.size e m v n xs → e ≠ 33 → w7.ownsRow w.heap.size e m v n xs := fun {e m n v xs} o he => o.kept hk3 (by
        cases hv : v.ownBlock with
        | none => exact .inl rfl
        | some g => exact .inr (fun e => by cases e; exact own_at o hg.out.hh he hv))
      have z0 : w7.cell? ⟨w.heap.size + 1, 0, none⟩ = some (.slice B1' G.ns.length s1') := by simp [World.cell?, HZ3]
      have z1 : w7.cell? ⟨w.heap.size + 1, 1, none⟩ = some (.slice B2' G.ls.length s2') := by simp [World.cell?, HZ3]
      have z2 : w7.cell? ⟨w.heap.size + 1, 2, none⟩ = some (.slice B3' G.ps.length s3') := by simp [World.cell?, HZ3]
      refine bodyPost_ret (v := .tuple #[.agg #[.slice B1' G.ns.length s1', .slice B2' G.ls.length s2', .slice B3' G.ps.length s3'], .int .i64 0, .int .i64 0]) (by simp [results, Try.f12, go_sem, z0, z1, z2]) rfl ⟨⟨_, _, _, rfl, key hg.out.na (by decide), key hg.out.la (by decide), key hg.out.pa (by decide)⟩, hbw.out.trans HB3⟩

end Go.Proofs.Ytpklcefiabjplaa
