/- The law of the large fronts: its walk. -/
import Derived.Test.YtpklcefiabjplaaP3
namespace Go.Proofs.Ytpklcefiabjplaa
open Go.ChangeShapes Go.WideShapes Go.ChangeAt Go.RowKit
set_option linter.unusedVariables false
set_option linter.unusedSimpArgs false
attribute [local go_sem] Og.Opt Og.OpY

theorem appNd {B h : Nat} {va vb vc v' : Value} {ns : List Nd} {ls : List Lk} {ps : List Pn} {r : Nd} {w w5 : World} {ob : Obj} (g : GS B w h va vb vc ns ls ps) (hg : (w.alloc ob).grownBy w5 va.ownBlock) (ho : w5.ownsRow B 41 3 v' (ns ++ [r]).length ((ns ++ [r]).flatMap cNd)) :
    GS B (w5.setCell ⟨h, 0, none⟩ v') h v' vb vc (ns ++ [r]) ls ps ∧ w5.cell? ⟨h, 0, none⟩ = some va ∧ w5.frozen? ⟨h, 0, none⟩ = false ∧ (∀ W, Below B W w → Below B W (w5.setCell ⟨h, 0, none⟩ v')) ∧ ∃ A c, v' = .slice A (ns.length + 1) c := by
  have ba : Below w.heap.size w (w.alloc ob) := (Below.refl _ _).alloc (Nat.le_refl _) _
  have g1 := g.below ba
  have hh := heap_grown hg g1.hh (fun e => own_at g1.na g1.hh (by decide) e.symm)
  obtain ⟨A, c, hv, -⟩ := Sl_of_row cNd_len (by omega) ho rfl
  rw [List.length_append] at hv
  exact ⟨g1.setN hg ho, by simp [World.cell?, hh], by simp [World.frozen?, hh], fun W hW => ((hW.trans (ba.mono g.hBw)).grown hg (by have := g.hBw; simp; omega) (fun j hj => (g.na.lt j hj).1)).setCell (p := ⟨h, 0, none⟩) g.hB _, A, c, hv⟩
theorem appLk {B h : Nat} {va vb vc v' : Value} {ns : List Nd} {ls : List Lk} {ps : List Pn} {r : Lk} {w w5 : World} {ob : Obj} (g : GS B w h va vb vc ns ls ps) (hg : (w.alloc ob).grownBy w5 vb.ownBlock) (ho : w5.ownsRow B 43 4 v' (ls ++ [r]).length ((ls ++ [r]).flatMap cLk)) :
    GS B (w5.setCell ⟨h, 1, none⟩ v') h va v' vc ns (ls ++ [r]) ps ∧ w5.cell? ⟨h, 1, none⟩ = some vb ∧ w5.frozen? ⟨h, 1, none⟩ = false ∧ (∀ W, Below B W w → Below B W (w5.setCell ⟨h, 1, none⟩ v')) ∧ ∃ A c, v' = .slice A (ls.length + 1) c := by
  have ba : Below w.heap.size w (w.alloc ob) := (Below.refl _ _).alloc (Nat.le_refl _) _
  have g1 := g.below ba
  have hh := heap_grown hg g1.hh (fun e => own_at g1.la g1.hh (by decide) e.symm)
  obtain ⟨A, c, hv, -⟩ := Sl_of_row cLk_len (by omega) ho rfl
  rw [List.length_append] at hv
  exact ⟨g1.setL hg ho, by simp [World.cell?, hh], by simp [World.frozen?, hh], fun W hW => ((hW.trans (ba.mono g.hBw)).grown hg (by have := g.hBw; simp; omega) (fun j hj => (g.la.lt j hj).1)).setCell (p := ⟨h, 1, none⟩) g.hB _, A, c, hv⟩
def nsU (k : Nat) : List Nd := (List.range k).map fun i : Nat => ⟨(i : Int)⟩
theorem nsU_s (k : Nat) : nsU (k + 1) = nsU k ++ [⟨(k : Int)⟩] := by simp [nsU, List.range_succ]
theorem nsU_l (k : Nat) : (nsU k).length = k := by simp [nsU]

theorem lsL_s (n : Nat) : lsL (n + 1) = lsL n ++ [⟨2 * (n : Int), 2 * (n : Int) + 1, 1, (2 : Int) ^ n + 1⟩] ++ [⟨2 * (n : Int), 2 * (n : Int) + 2, (2 : Int) ^ n + 2, 1⟩] ++ [⟨2 * (n : Int) + 1, 2 * (n : Int) + 2, 1, 0⟩] := by
  unfold lsL
  rw [List.range_succ, List.flatMap_append]
  simp [Int.natCast_pow]
theorem lsL_l (n : Nat) : (lsL n).length = 3 * n := by
  induction n with
  | zero => rfl
  | succ n ih => rw [lsL_s]; simp [ih]; omega
theorem nsL_at {n k : Nat} (h : k ≤ 2 * n) : (nsL n)[k]? = some ⟨(k : Int)⟩ := by
  unfold nsL
  rw [List.getElem?_map, List.getElem?_range (by omega)]
  rfl
theorem FrontL (n : Nat) (h1 : 1 ≤ n) (h2 : n ≤ 9) (va vb vc : Value) (w : World) (ha : Sl cNd 3 0 w va (nsL n)) (hb : Sl cLk 4 0 w vb (lsL n)) (hc : Sl cPn 4 0 w vc []) :
    Calls Try.prog 15 #[.agg #[va, vb, vc], .int .i64 0, .int .i64 (2 * (n : Int))] w fun e w' => ((6 < n → e = .returned (.tuple #[.slice none 0 0, .int .i64 7])) ∧ (n ≤ 6 → ∃ A c, e = .returned (.tuple #[.slice A (2 ^ n) c, .int .i64 0]))) ∧ Below w.heap.size w w' := by
  obtain ⟨hs, ⟨ds, res, fb0, t1, t2, t3, t4⟩, -⟩ := lad_all h1 h2
  have g : GX w va vb vc (nsL n) (lsL n) := ⟨ha, hb, hc, hs, by simp [nsL]; omega⟩
  have hk : (nsL n)[2 * n]? = some ⟨2 * (n : Int)⟩ := by rw [nsL_at (Nat.le_refl _)]; simp
  have h3 : res[(2 * (n : Int)).toNat]? = some fb0 := by rw [show (2 * (n : Int)).toNat = 2 * n by omega]; exact t3
  refine (Front_ok 0 (2 * (n : Int)) 0 (2 * n) 600 _ _ va vb vc ds res _ fb0 w g (nsL_at (Nat.zero_le _)) hk t1 t2 h3).mono ?_
  rintro e w' ⟨⟨v, rfl, hv⟩, hb⟩
  refine ⟨⟨fun h6 => ?_, fun h6 => ?_⟩, hb⟩
  · rw [if_pos h6] at hv ⊢
    rcases hv with ⟨_, rfl⟩ | ⟨h, _⟩
    · rfl
    · cases h
  · rw [if_neg (by omega)] at hv ⊢
    rcases hv with ⟨h, _⟩ | ⟨_, A, c, rfl, _⟩
    · exact absurd rfl h
    · exact ⟨A, c, by rw [t4 h6]⟩
theorem FrontR (n : Nat) (h1 : 1 ≤ n) (h2 : n ≤ 9) (va vb vc : Value) (w : World) (ha : Sl cNd 3 0 w va (nsL n)) (hb : Sl cLk 4 0 w vb (lsL n)) (hc : Sl cPn 4 0 w vc []) :
    Calls Try.prog 15 #[.agg #[va, vb, vc], .int .i64 (2 * (n : Int)), .int .i64 0] w fun e w' => (∃ A c, e = .returned (.tuple #[.slice A 0 c, .int .i64 0])) ∧ Below w.heap.size w w' := by
  obtain ⟨hs, -, ⟨ds, res, fb0, t1, t2, t3, t4⟩⟩ := lad_all h1 h2
  have g : GX w va vb vc (nsL n) (lsL n) := ⟨ha, hb, hc, hs, by simp [nsL]; omega⟩
  have hk : (nsL n)[2 * n]? = some ⟨2 * (n : Int)⟩ := by rw [nsL_at (Nat.le_refl _)]; simp
  rw [show ((2 * n : Nat) : Int) = 2 * (n : Int) by omega] at t1 t2
  refine (Front_ok (2 * (n : Int)) 0 (2 * n) 0 600 _ _ va vb vc ds res _ fb0 w g hk (nsL_at (Nat.zero_le _)) t1 t2 t3).mono ?_
  rintro e w' ⟨⟨v, rfl, hv⟩, hb⟩
  rcases hv with ⟨h, _⟩ | ⟨_, A, c, rfl, _⟩
  · exact absurd rfl h
  · exact ⟨⟨A, c, by rw [t4]⟩, hb⟩
theorem alloc_le {n : Nat} {w : World} {ob : Obj} (h : n ≤ w.heap.size) : n ≤ (w.alloc ob).heap.size := by simp; omega
theorem pow_le_256 {k : Nat} (h : k ≤ 8) : 2 ^ k ≤ 256 := by
  have : (2 : Nat) ^ k ≤ 2 ^ 8 := Nat.pow_le_pow_right (by omega) h
  exact this
set_option maxRecDepth 100000 in
set_option maxHeartbeats 16000000 in
theorem Large_ok (z : Int) (h0 : 0 ≤ z) (h1 : z ≤ 255) (w : World) : Calls Try.prog 5 #[.int .u8 z] w fun e w' => e = .returned (.bool true) ∧ Below w.heap.size w w' := by
  go_enter Try.func5, Try.ntmps5
  go_wp2_with fail
  obtain ⟨n, hn⟩ : ∃ n : Nat, z % 9 + 1 = (n : Int) := ⟨(z % 9 + 1).toNat, by omega⟩
  rw [hn]
  have hn1 : 1 ≤ n := by omega
  have hn9 : n ≤ 9 := by omega
  have hw2n : IntKind.i64.wrap (2 * (n : Int)) = 2 * (n : Int) := by rw [IntKind.wrap_i64]; omega
  clear h0 h1
  clear hn
  obtain ⟨h, hh⟩ : ∃ h, h = w.heap.size := ⟨_, rfl⟩
  have HH := Lib.hid hh
  go_loopw [5] (fun i wr => ∃ (k : Nat) (va : Value), k ≤ 2 * n + 1 ∧ i = .int .i64 k ∧ Hid (GS w.heap.size wr w.heap.size va (.slice none 0 0) (.slice none 0 0) (nsU k) [] []) ∧ Hid (Below w.heap.size w wr)) (fun i _ => 2 * n + 1 - (intOf i).toNat)
  case atStart => exact ⟨0, _, by omega, rfl, Lib.hid ⟨Nat.le_refl _, heap_at rfl, ⟨rfl, .inl ⟨rfl, rfl⟩⟩, ⟨rfl, .inl ⟨rfl, rfl⟩⟩, ⟨rfl, .inl ⟨rfl, rfl⟩⟩⟩, Lib.hid ((Below.refl _ _).alloc (Nat.le_refl _) _)⟩
  case round =>
    obtain ⟨k, va, hk, rfl, hg, hbw⟩ := hrel
    have y0 := hg.out.cells.1
    by_cases hlt : k ≤ 2 * n
    · have hwk1 : IntKind.i64.wrap ((k : Int) + 1) = (k : Int) + 1 := by rw [IntKind.wrap_i64]; omega
      have hkn : (k : Int) ≤ 2 * (n : Int) := by omega
      go_wp2_with (at_builtin; refine wpList_appNd rfl (.tmp 24) (.tmp 27) rfl w.heap.size wr.heap.size va (nsU k) ⟨(k : Int)⟩ rfl rfl (own_below hg.out.na ((Below.refl _ _).alloc (Nat.le_refl _) _)) (heap_at rfl) (by rw [nsU_l]; omega) (by have := hbw.out.size; simp; omega) ?_; intro v' w5 ho5 hg5; obtain ⟨G1, y1, f1, b1, A1, c1, hv1⟩ := appNd hg.out hg5 ho5; subst hv1; have G1' := Lib.hid G1; have B1' := Lib.hid (b1 _ hbw.out); clear G1 b1 ho5 hg5)
      go_roundw
      case rel => exact ⟨k + 1, _, by omega, by go_num, by rw [nsU_s]; exact G1', B1'⟩
      case measure => simp [intOf]; omega
    · have hkn : k = 2 * n + 1 := by omega
      have hke : (k : Int) = 2 * (n : Int) + 1 := by omega
      have hkf : ¬ (2 * (n : Int) + 1 ≤ 2 * (n : Int)) := by omega
      rw [hke]
      have GA : Hid (GS w.heap.size wr w.heap.size va (.slice none 0 0) (.slice none 0 0) (nsL n) (lsL 0) []) := Lib.hid (by have := hg.out; rw [hkn] at this; exact this)
      have BA := Lib.hid hbw.out
      obtain ⟨vn, rfl⟩ : ∃ vn : Value, vn = va := ⟨_, rfl⟩
      clear hlt hk y0 hg hbw hke hkn
      go_wp2_with fail
      go_loopw [6] (fun i wr => ∃ (k : Nat) (vb : Value), k ≤ n ∧ i = .int .i64 k ∧ Hid (GS w.heap.size wr w.heap.size vn vb (.slice none 0 0) (nsL n) (lsL k) []) ∧ Hid (Below w.heap.size w wr)) (fun i _ => n - (intOf i).toNat)
      case atStart => exact ⟨0, _, by omega, rfl, GA, BA⟩
      case round =>
        clear GA BA
        obtain ⟨k, vb, hk, rfl, hg0, hbw0⟩ := hrel
        have z0 := hg0.out.cells.2.1
        by_cases hlt : k < n
        · have hwk1 : IntKind.i64.wrap ((k : Int) + 1) = (k : Int) + 1 := by rw [IntKind.wrap_i64]; omega
          have hkn : (k : Int) < (n : Int) := by omega
          obtain ⟨q, HQ, hp⟩ : ∃ q : Nat, Hid ((2 : Int) ^ k = (q : Int)) ∧ q ≤ 256 := ⟨2 ^ k, Lib.hid (by simp [Int.natCast_pow]), pow_le_256 (by omega)⟩
          have hw0 : wrap64 (q : Int) = (q : Int) := by unfold wrap64; omega
          have hw1 : wrap64 ((q : Int) + 1) = (q : Int) + 1 := by unfold wrap64; omega
          have hw2 : wrap64 ((q : Int) + 2) = (q : Int) + 2 := by unfold wrap64; omega
          have HL1 : Hid ((lsL k).length ≤ 1172812402926) := Lib.hid (by rw [lsL_l]; omega)
          have HL2 : Hid ((lsL k ++ [(⟨2 * (k : Int), 2 * (k : Int) + 1, 1, (q : Int) + 1⟩ : Lk)]).length ≤ 1172812402926) := Lib.hid (by rw [List.length_append, lsL_l, List.length_cons, List.length_nil]; omega)
          have HL3 : Hid ((lsL k ++ [(⟨2 * (k : Int), 2 * (k : Int) + 1, 1, (q : Int) + 1⟩ : Lk)] ++ [(⟨2 * (k : Int), 2 * (k : Int) + 2, (q : Int) + 2, 1⟩ : Lk)]).length ≤ 1172812402926) := Lib.hid (by rw [List.length_append, List.length_append, lsL_l, List.length_cons, List.length_nil, List.length_cons, List.length_nil]; omega)
          clear hp
          have hp2 := HQ.out
          go_wp2_with (first | (at_builtin; refine wpList_appLk rfl (.tmp 38) (.tmp 47) rfl w.heap.size _ vb (lsL k) ⟨2 * (k : Int), 2 * (k : Int) + 1, 1, (q : Int) + 1⟩ rfl rfl (own_below hg0.out.la ((Below.refl _ _).alloc (Nat.le_refl _) _)) (heap_at (by simp)) HL1.out (alloc_le hbw0.out.size) ?_; intro v1 w5 ho5 hg5; obtain ⟨G1, y1, f1, b1, A1, c1, hv1⟩ := appLk hg0.out hg5 ho5; (try simp only [List.length_append, List.length_cons, List.length_nil, Nat.zero_add] at hv1); subst hv1; have hg1 := Lib.hid G1; have hbw1 := Lib.hid (b1 _ hbw0.out); have z1 := G1.cells.2.1; clear G1 b1 ho5 hg5) | (at_builtin; refine wpList_appLk rfl (.tmp 51) (.tmp 60) rfl w.heap.size _ _ (lsL k ++ [⟨2 * (k : Int), 2 * (k : Int) + 1, 1, (q : Int) + 1⟩]) ⟨2 * (k : Int), 2 * (k : Int) + 2, (q : Int) + 2, 1⟩ rfl rfl (own_below hg1.out.la ((Below.refl _ _).alloc (Nat.le_refl _) _)) (heap_at (by simp)) HL2.out (alloc_le hbw1.out.size) ?_; intro v2 w6 ho5 hg5; obtain ⟨G1, y2, f2, b1, A2, c2, hv1⟩ := appLk hg1.out hg5 ho5; (try simp only [List.length_append, List.length_cons, List.length_nil, Nat.zero_add] at hv1); subst hv1; have hg2 := Lib.hid G1; have hbw2 := Lib.hid (b1 _ hbw1.out); have z2 := G1.cells.2.1; clear G1 b1 ho5 hg5) | (at_builtin; refine wpList_appLk rfl (.tmp 64) (.tmp 72) rfl w.heap.size _ _ (lsL k ++ [⟨2 * (k : Int), 2 * (k : Int) + 1, 1, (q : Int) + 1⟩] ++ [⟨2 * (k : Int), 2 * (k : Int) + 2, (q : Int) + 2, 1⟩]) ⟨2 * (k : Int) + 1, 2 * (k : Int) + 2, 1, 0⟩ rfl rfl (own_below hg2.out.la ((Below.refl _ _).alloc (Nat.le_refl _) _)) (heap_at (by simp)) HL3.out (alloc_le hbw2.out.size) ?_; intro v3 w7 ho5 hg5; obtain ⟨G1, y3, f3, b1, A3, c3, hv1⟩ := appLk hg2.out hg5 ho5; (try simp only [List.length_append, List.length_cons, List.length_nil, Nat.zero_add] at hv1); subst hv1; have hg3 := Lib.hid G1; have hbw3 := Lib.hid (b1 _ hbw2.out); have z3 := G1.cells.2.1; clear G1 b1 ho5 hg5))
          go_roundw
          case rel => exact ⟨k + 1, _, by omega, by go_num, by rw [lsL_s, HQ.out]; exact hg3, hbw3⟩
          case measure => simp [intOf]; omega
        · have hke : k = n := by omega
          subst hke
          have hkf : ¬ ((k : Int) < (k : Int)) := by omega
          obtain ⟨vl, rfl⟩ : ∃ vl : Value, vl = vb := ⟨_, rfl⟩
          obtain ⟨q, HQ, hp⟩ : ∃ q : Nat, Hid (2 ^ k = q) ∧ (k ≤ 8 → q ≤ 256) := ⟨2 ^ k, Lib.hid rfl, pow_le_256⟩
          have H1 : Hid (∀ w2, Below wr.heap.size wr w2 → Calls Try.prog 15 #[.agg #[vn, vl, .slice none 0 0], .int .i64 0, .int .i64 (2 * (k : Int))] w2 fun e w' => ((6 < k → e = .returned (.tuple #[.slice none 0 0, .int .i64 7])) ∧ (k ≤ 6 → ∃ A c, e = .returned (.tuple #[.slice A q c, .int .i64 0]))) ∧ Below w2.heap.size w2 w') := Lib.hid fun w2 hb => by
            have g2 := hg0.out.below hb
            rw [← HQ.out]
            exact FrontL k hn1 hn9 _ _ _ w2 (Sl_of_row cNd_len (by omega) (own_lower g2.na (Nat.zero_le _)) rfl) (Sl_of_row cLk_len (by omega) (own_lower g2.la (Nat.zero_le _)) rfl) (Sl_of_row cPn_len (by omega) (own_lower g2.pa (Nat.zero_le _)) rfl)
          have H2 : Hid (∀ w2, Below wr.heap.size wr w2 → Calls Try.prog 15 #[.agg #[vn, vl, .slice none 0 0], .int .i64 (2 * (k : Int)), .int .i64 0] w2 fun e w' => (∃ A c, e = .returned (.tuple #[.slice A 0 c, .int .i64 0])) ∧ Below w2.heap.size w2 w') := Lib.hid fun w2 hb => by
            have g2 := hg0.out.below hb
            exact FrontR k hn1 hn9 _ _ _ w2 (Sl_of_row cNd_len (by omega) (own_lower g2.na (Nat.zero_le _)) rfl) (Sl_of_row cLk_len (by omega) (own_lower g2.la (Nat.zero_le _)) rfl) (Sl_of_row cPn_len (by omega) (own_lower g2.pa (Nat.zero_le _)) rfl)
          obtain ⟨y0, y1, y2⟩ := hg0.out.cells
          have hw3 : k ≤ 6 → wrap64 ((2 : Int) ^ k) = (q : Int) := fun h6 => by
            have h8 := hp (by omega)
            have e : (2 : Int) ^ k = (q : Int) := by rw [← HQ.out]; simp [Int.natCast_pow]
            rw [e]
            unfold wrap64
            omega
          have BW := hbw0.out
          have BWH := hbw0
          have Q2 := HQ
          clear hp HQ z0 hlt hk hg0 hbw0
          by_cases h6 : 6 < k
          · have hk6 : (6 : Int) < (k : Int) := by omega
            clear hw3
            go_wp2_with fail
            with_reducible refine (H1.out _ (Below.refl _ _)).mono ?_
            rintro e wa ⟨⟨hA, -⟩, hb⟩
            obtain rfl := hA h6
            have B1 := Lib.hid hb
            have B1' := Lib.hid (bthen' BW BWH.out.size hb)
            replace y0 := bcell hb y0
            replace y1 := bcell hb y1
            replace y2 := bcell hb y2
            clear hb hA
            go_wp2_with fail
            with_reducible refine (H2.out _ B1.out).mono ?_
            rintro e wb ⟨⟨A, c, rfl⟩, hb⟩
            have B2 := Lib.hid (bthen' B1'.out B1'.out.size hb)
            clear hb y0 y1 y2 H1 H2 BW
            go_wp2_with fail
            with_reducible refine (awakeD_ok _).mono ?_
            rintro e wc ⟨rfl, hb⟩
            have B3 := Lib.hid (bthen' B2.out B2.out.size hb)
            clear hb
            go_wp2_with fail
            go_ret
            exact ⟨rfl, B3.out⟩
          · have hk6 : ¬ (6 : Int) < (k : Int) := by omega
            have hw4 := hw3 (by omega)
            clear hw3
            go_wp2_with fail
            with_reducible refine (H1.out _ (Below.refl _ _)).mono ?_
            rintro e wa ⟨⟨-, hA⟩, hb⟩
            obtain ⟨A0, c0, rfl⟩ := hA (by omega)
            have B1 := Lib.hid hb
            have B1' := Lib.hid (bthen' BW BWH.out.size hb)
            replace y0 := bcell hb y0
            replace y1 := bcell hb y1
            replace y2 := bcell hb y2
            clear hb hA
            go_wp2_with fail
            with_reducible refine (H2.out _ B1.out).mono ?_
            rintro e wb ⟨⟨A, c, rfl⟩, hb⟩
            have B2 := Lib.hid (bthen' B1'.out B1'.out.size hb)
            clear hb y0 y1 y2 H1 H2 BW
            go_wp2_with fail
            with_reducible refine (awakeD_ok _).mono ?_
            rintro e wc ⟨rfl, hb⟩
            have B3 := Lib.hid (bthen' B2.out B2.out.size hb)
            clear hb
            go_wp2_with fail
            go_ret
            exact ⟨rfl, B3.out⟩

end Go.Proofs.Ytpklcefiabjplaa
