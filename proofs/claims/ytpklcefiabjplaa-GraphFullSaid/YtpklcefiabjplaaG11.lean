/- The law of the full graph: its walk. -/
import Derived.Test.YtpklcefiabjplaaG10
namespace Go.Proofs.Ytpklcefiabjplaa
open Go.ChangeShapes Go.WideShapes Go.ChangeAt Go.RowKit
set_option linter.unusedVariables false
set_option linter.unusedSimpArgs false
attribute [local go_sem] Og.Opt Og.OpY

theorem appNd {B h : Nat} {va vb vc v' : Value} {ns : List Nd} {ls : List Lk} {ps : List Pn} {r : Nd} {w w5 : World} {ob : Obj} (g : GS B w h va vb vc ns ls ps) (hg : (w.alloc ob).grownBy w5 va.ownBlock) (ho : w5.ownsRow B 41 3 v' (ns ++ [r]).length ((ns ++ [r]).flatMap cNd)) :
    GS B (w5.setCell ⟨h, 0, none⟩ v') h v' vb vc (ns ++ [r]) ls ps ∧ w5.cell? ⟨h, 0, none⟩ = some va ∧ w5.frozen? ⟨h, 0, none⟩ = false ∧ (∀ W, Below B W w → Below B W (w5.setCell ⟨h, 0, none⟩ v')) ∧ ∃ A c, v' = .slice A (ns.length + 1) c := by
  have ba : Below w.heap.size w (w.alloc ob) := (Below.refl _ _).alloc (Nat.le_refl _) _
  have g1 := g.below ba
  have hh := heap_grown hg g1.hh (fun e => own_at g1.na g1.hh (by decide) e.symm)
  obtain ⟨A, c, hv, -⟩ := Sl_of_row cNd_len (by omega) ho rfl
  rw [List.length_append] at hv
  exact ⟨g1.setN hg ho, by simp [World.cell?, hh], by simp [World.frozen?, hh], fun W hW => ((hW.trans (ba.mono g.hBw)).grown hg (by have := g.hBw; simp; omega) (fun j hj => (g.na.lt j hj).1)).setCell (p := ⟨h, 0, none⟩) g.hB _, A, c, hv⟩

theorem appLk {B h : Nat} {va vb vc v' : Value} {ns : List Nd} {ls : List Lk} {ps : List Pn} {r : Lk} {w w5 : World} {ob : Obj} (g : GS B w h va vb vc ns ls ps) (hg : (w.alloc ob).grownBy w5 vb.ownBlock) (ho : w5.ownsRow B 43 4 v' (ls ++ [r]).length ((ls ++ [r]).flatMap cLk)) :
    GS B (w5.setCell ⟨h, 1, none⟩ v') h va v' vc ns (ls ++ [r]) ps ∧ w5.cell? ⟨h, 1, none⟩ = some vb ∧ w5.frozen? ⟨h, 1, none⟩ = false ∧ (∀ W, Below B W w → Below B W (w5.setCell ⟨h, 1, none⟩ v')) ∧ ∃ A c, v' = .slice A (ls.length + 1) c := by
  have ba : Below w.heap.size w (w.alloc ob) := (Below.refl _ _).alloc (Nat.le_refl _) _
  have g1 := g.below ba
  have hh := heap_grown hg g1.hh (fun e => own_at g1.la g1.hh (by decide) e.symm)
  obtain ⟨A, c, hv, -⟩ := Sl_of_row cLk_len (by omega) ho rfl
  rw [List.length_append] at hv
  exact ⟨g1.setL hg ho, by simp [World.cell?, hh], by simp [World.frozen?, hh], fun W hW => ((hW.trans (ba.mono g.hBw)).grown hg (by have := g.hBw; simp; omega) (fun j hj => (g.la.lt j hj).1)).setCell (p := ⟨h, 1, none⟩) g.hB _, A, c, hv⟩

theorem appPn {B h : Nat} {va vb vc v' : Value} {ns : List Nd} {ls : List Lk} {ps : List Pn} {r : Pn} {w w5 : World} {ob : Obj} (g : GS B w h va vb vc ns ls ps) (hg : (w.alloc ob).grownBy w5 vc.ownBlock) (ho : w5.ownsRow B 49 4 v' (ps ++ [r]).length ((ps ++ [r]).flatMap cPn)) :
    GS B (w5.setCell ⟨h, 2, none⟩ v') h va vb v' ns ls (ps ++ [r]) ∧ w5.cell? ⟨h, 2, none⟩ = some vc ∧ w5.frozen? ⟨h, 2, none⟩ = false ∧ (∀ W, Below B W w → Below B W (w5.setCell ⟨h, 2, none⟩ v')) ∧ ∃ A c, v' = .slice A (ps.length + 1) c := by
  have ba : Below w.heap.size w (w.alloc ob) := (Below.refl _ _).alloc (Nat.le_refl _) _
  have g1 := g.below ba
  have hh := heap_grown hg g1.hh (fun e => own_at g1.pa g1.hh (by decide) e.symm)
  obtain ⟨A, c, hv, -⟩ := Sl_of_row cPn_len (by omega) ho rfl
  rw [List.length_append] at hv
  exact ⟨g1.setP hg ho, by simp [World.cell?, hh], by simp [World.frozen?, hh], fun W hW => ((hW.trans (ba.mono g.hBw)).grown hg (by have := g.hBw; simp; omega) (fun j hj => (g.pa.lt j hj).1)).setCell (p := ⟨h, 2, none⟩) g.hB _, A, c, hv⟩

def nsU (k : Nat) : List Nd := (List.range k).map fun i : Nat => ⟨(i : Int)⟩
def lsU (c : Int) (k : Nat) : List Lk := (List.range k).map (lkF c)
def psU (c : Int) (k : Nat) : List Pn := (List.range k).map (pnF c)
theorem nsU_s (k : Nat) : nsU (k + 1) = nsU k ++ [⟨(k : Int)⟩] := by simp [nsU, List.range_succ]
theorem lsU_s (c : Int) (k : Nat) : lsU c (k + 1) = lsU c k ++ [lkF c k] := by simp [lsU, List.range_succ]
theorem psU_s (c : Int) (k : Nat) : psU c (k + 1) = psU c k ++ [pnF c k] := by simp [psU, List.range_succ]
theorem nsU_l (k : Nat) : (nsU k).length = k := by simp [nsU]
theorem lsU_l (c : Int) (k : Nat) : (lsU c k).length = k := by simp [lsU]
theorem psU_l (c : Int) (k : Nat) : (psU c k).length = k := by simp [psU]
def cnt (a b : Nat) : Nat := min 2048 (63 * a + if b ≤ a then b else b - 1)
theorem lkF_at {c : Int} {a b m : Nat} (hb : b < 64) (ha : a < 64) (hn : a ≠ b) (hm : m = cnt a b) (hlt : m < 2048) : lkF c m = ⟨(a : Int), (b : Int), c, 0⟩ := by
  unfold cnt at hm
  have e1 : m / 63 = a := by split at hm <;> omega
  have e2 : (if m % 63 < m / 63 then m % 63 else m % 63 + 1) = b := by rw [e1]; split at hm <;> split <;> omega
  simp only [lkF]
  rw [e2, e1]

set_option maxRecDepth 100000 in
set_option maxHeartbeats 16000000 in
theorem Full_ok (cost : Int) (h0 : 0 ≤ cost) (h1 : cost ≤ 65535) (w : World) : Calls Try.prog 4 #[.int .u16 cost] w fun e w' => e = .returned (.bool true) ∧ Below w.heap.size w w' := by
  by_cases h2 : cost = 65535
  · subst h2
    go_enter Try.func4, Try.ntmps4
    go_wp2_with fail
    obtain ⟨c, hc⟩ : ∃ c : Int, c = 65535 := ⟨_, rfl⟩
    rw [← hc]
    have hwc1 : IntKind.i64.wrap (c - 1) = c - 1 := by rw [IntKind.wrap_i64]; omega
    have hc2 : c ≤ 65535 := by omega
    have HC1 : Hid (1 ≤ c) := Lib.hid (by omega)
    have HC2 := Lib.hid hc2
    clear hc h1
    clear h0
    obtain ⟨h, hh⟩ : ∃ h, h = w.heap.size := ⟨_, rfl⟩
    have HH := Lib.hid hh
    go_loopw [5] (fun i wr => ∃ (k : Nat) (va : Value), k ≤ 64 ∧ i = .int .i64 k ∧ Hid (GS w.heap.size wr w.heap.size va (.slice none 0 0) (.slice none 0 0) (nsU k) [] []) ∧ Hid (Below w.heap.size w wr)) (fun i _ => 64 - (intOf i).toNat)
    case atStart => exact ⟨0, _, by decide, rfl, Lib.hid ⟨Nat.le_refl _, heap_at rfl, ⟨rfl, .inl ⟨rfl, rfl⟩⟩, ⟨rfl, .inl ⟨rfl, rfl⟩⟩, ⟨rfl, .inl ⟨rfl, rfl⟩⟩⟩, Lib.hid ((Below.refl _ _).alloc (Nat.le_refl _) _)⟩
    case round =>
      obtain ⟨k, va, hk, rfl, hg, hbw⟩ := hrel
      have y0 := hg.out.cells.1
      by_cases hlt : k < 64
      · have hwk1 : IntKind.i64.wrap ((k : Int) + 1) = (k : Int) + 1 := by rw [IntKind.wrap_i64]; omega
        have hkn : (k : Int) < 64 := by omega
        go_wp2_with (at_builtin; refine wpList_appNd rfl (.tmp 29) (.tmp 32) rfl w.heap.size wr.heap.size va (nsU k) ⟨(k : Int)⟩ rfl rfl (own_below hg.out.na ((Below.refl _ _).alloc (Nat.le_refl _) _)) (heap_at rfl) (by rw [nsU_l]; omega) (by have := hbw.out.size; simp; omega) ?_; intro v' w5 ho5 hg5; obtain ⟨G1, y1, f1, b1, A1, c1, hv1⟩ := appNd hg.out hg5 ho5; subst hv1; have G1' := Lib.hid G1; have B1' := Lib.hid (b1 _ hbw.out); clear G1 b1 ho5 hg5)
        go_roundw
        case rel => exact ⟨k + 1, _, by omega, by go_num, by rw [nsU_s]; exact G1', B1'⟩
        case measure => simp [intOf]; omega
      · have hkn : k = 64 := by omega
        have hke : (k : Int) = 64 := by omega
        rw [hke]
        have GA : Hid (GS w.heap.size wr w.heap.size va (.slice none 0 0) (.slice none 0 0) nsF [] []) := Lib.hid (by have := hg.out; rw [hkn] at this; exact this)
        have BA := Lib.hid hbw.out
        obtain ⟨vn, rfl⟩ : ∃ vn : Value, vn = va := ⟨_, rfl⟩
        clear hlt hk y0 hg hbw hke hkn
        go_wp2_with fail
        go_loopw [6] (fun i wr => ∃ (a : Nat) (vb : Value), a ≤ 64 ∧ i = .int .i64 a ∧ Hid (GS w.heap.size wr w.heap.size vn vb (.slice none 0 0) nsF (lsU c (cnt a 0)) []) ∧ Hid (Below w.heap.size w wr)) (fun i _ => 64 - (intOf i).toNat)
        case atStart => exact ⟨0, _, by decide, rfl, GA, BA⟩
        case round =>
          clear GA BA
          obtain ⟨a, vb, ha, rfl, hg, hbw⟩ := hrel
          by_cases hlt : a < 64
          · have hwk1 : IntKind.i64.wrap ((a : Int) + 1) = (a : Int) + 1 := by rw [IntKind.wrap_i64]; omega
            have hkn : (a : Int) < 64 := by omega
            go_wp2_with fail
            go_loopw [7] (fun i wr => ∃ (b m : Nat) (vb : Value), b ≤ 64 ∧ i = .int .i64 b ∧ m = cnt a b ∧ Hid (GS w.heap.size wr w.heap.size vn vb (.slice none 0 0) nsF (lsU c m) []) ∧ Hid (Below w.heap.size w wr)) (fun i _ => 64 - (intOf i).toNat)
            case atStart => exact ⟨0, _, _, by decide, rfl, rfl, hg, hbw⟩
            case round =>
              clear hg hbw
              obtain ⟨b, m, vb', hb, rfl, hm, hg, hbw⟩ := hrel
              obtain ⟨A, cc, hv, -⟩ := Sl_of_row cLk_len (by omega) hg.out.la rfl
              rw [lsU_l] at hv
              subst hv
              have y1 := hg.out.cells.2.1
              have hmle : m ≤ 2048 := by rw [hm]; unfold cnt; omega
              have HM := Lib.hid hm
              clear hm
              by_cases hlb : b < 64
              · have hbi : (b : Int) < 64 := by omega
                have hwb1 : IntKind.i64.wrap ((b : Int) + 1) = (b : Int) + 1 := by rw [IntKind.wrap_i64]; omega
                by_cases hm2 : m < 2048
                · have hmi : (m : Int) < 2048 := by omega
                  by_cases hab : a = b
                  · subst hab
                    go_wp2_with fail
                    go_roundw
                    case rel => exact ⟨a + 1, m, _, by omega, by go_num, by rw [HM.out]; unfold cnt; split <;> split <;> omega, hg, hbw⟩
                    case measure => simp [intOf]; omega
                  · have habi : ((a : Int) = (b : Int)) = False := eq_false (by omega)
                    have HE := Lib.hid (lkF_at (c := c) hlb hlt hab HM.out hm2)
                    have HS : Hid (cnt a (b + 1) = m + 1) := Lib.hid (by have := HM.out; unfold cnt at this ⊢; split at this <;> split <;> omega)
                    go_wp2_with (at_builtin; refine wpList_appLk rfl (.tmp 53) (.tmp 58) rfl w.heap.size wr.heap.size (.slice A m cc) (lsU c m) ⟨(a : Int), (b : Int), c, 0⟩ rfl rfl (own_below hg.out.la ((Below.refl _ _).alloc (Nat.le_refl _) _)) (heap_at rfl) (by rw [lsU_l]; omega) (by have := hbw.out.size; simp; omega) ?_; intro v' w5 ho5 hg5; obtain ⟨G1, y2, f1, b1, A1, c1, hv1⟩ := appLk hg.out hg5 ho5; subst hv1; have G1' := Lib.hid G1; have B1' := Lib.hid (b1 _ hbw.out); clear G1 b1 ho5 hg5)
                    go_roundw
                    case rel => exact ⟨b + 1, m + 1, _, by omega, by go_num, HS.out.symm, by rw [lsU_s, HE.out]; exact G1', B1'⟩
                    case measure => simp [intOf]; omega
                · have hmi : ¬ (m : Int) < 2048 := by omega
                  have hme : m = 2048 := by omega
                  have HS : Hid (cnt (a + 1) 0 = m) := Lib.hid (by have := HM.out; unfold cnt at this ⊢; split at this <;> split <;> omega)
                  go_wp2_with fail
                  go_roundw
                  case rel => exact ⟨a + 1, _, by omega, by go_num, by rw [HS.out]; exact hg, hbw⟩
                  case measure => simp [intOf]; omega
              · have hbe : b = 64 := by omega
                subst hbe
                have HS : Hid (cnt (a + 1) 0 = m) := Lib.hid (by have := HM.out; unfold cnt at this ⊢; split at this <;> split <;> omega)
                go_wp2_with fail
                go_roundw
                case rel => exact ⟨a + 1, _, by omega, by go_num, by rw [HS.out]; exact hg, hbw⟩
                case measure => simp [intOf]; omega
          · have hae : a = 64 := by omega
            have hke : (a : Int) = 64 := by omega
            rw [hke]
            have GA : Hid (GS w.heap.size wr w.heap.size vn vb (.slice none 0 0) nsF (lsF c) []) := Lib.hid (by have := hg.out; rw [hae] at this; exact this)
            have BA := Lib.hid hbw.out
            obtain ⟨vl, rfl⟩ : ∃ vn : Value, vn = vb := ⟨_, rfl⟩
            clear hlt ha hg hbw hke hae
            go_wp2_with fail
            go_loopw [8] (fun i wr => ∃ (k : Nat) (vc : Value), k ≤ 1024 ∧ i = .int .i64 k ∧ Hid (GS w.heap.size wr w.heap.size vn vl vc nsF (lsF c) (psU c k)) ∧ Hid (Below w.heap.size w wr)) (fun i _ => 1024 - (intOf i).toNat)
            case atStart => exact ⟨0, _, by decide, rfl, GA, BA⟩
            case round =>
              clear GA BA
              obtain ⟨k, vc, hk, rfl, hg, hbw⟩ := hrel
              have y2 := hg.out.cells.2.2
              by_cases hlt : k < 1024
              · have hwk1 : IntKind.i64.wrap ((k : Int) + 1) = (k : Int) + 1 := by rw [IntKind.wrap_i64]; omega
                have hkn : (k : Int) < 1024 := by omega
                go_wp2_with (at_builtin; refine wpList_appPn rfl (.tmp 66) (.tmp 74) rfl w.heap.size wr.heap.size vc (psU c k) ⟨⟨(k : Int) * 256, 24⟩, 3, c - 1⟩ rfl rfl (own_below hg.out.pa ((Below.refl _ _).alloc (Nat.le_refl _) _)) (heap_at rfl) (by rw [psU_l]; omega) (by have := hbw.out.size; simp; omega) ?_; intro v' w5 ho5 hg5; obtain ⟨G1, y3, f1, b1, A1, c1, hv1⟩ := appPn hg.out hg5 ho5; subst hv1; have G1' := Lib.hid G1; have B1' := Lib.hid (b1 _ hbw.out); clear G1 b1 ho5 hg5)
                go_roundw
                case rel => exact ⟨k + 1, _, by omega, by go_num, by rw [psU_s, show pnF c k = ⟨⟨(k : Int) * 256, 24⟩, 3, c - 1⟩ from by simp [pnF, Int.mul_comm]]; exact G1', B1'⟩
                case measure => simp [intOf]; omega
              · have hke : (k : Int) = 1024 := by omega
                rw [hke]
                have GA : Hid (GS w.heap.size wr w.heap.size vn vl vc nsF (lsF c) (psF c)) := Lib.hid (by have := hg.out; rw [show k = 1024 by omega] at this; exact this)
                have BA := Lib.hid hbw.out
                obtain ⟨vp, rfl⟩ : ∃ vn : Value, vn = vc := ⟨_, rfl⟩
                clear hlt hk hg hbw hke y2
                have SA : Hid (∀ w2, Below wr.heap.size wr w2 → Sl cNd 3 0 w2 vn nsF ∧ Sl cLk 4 0 w2 vl (lsF c) ∧ Sl cPn 4 0 w2 vp (psF c)) := Lib.hid fun w2 hb => by
                  have g2 := GA.out.below hb
                  exact ⟨Sl_of_row cNd_len (by omega) (own_lower g2.na (Nat.zero_le _)) rfl, Sl_of_row cLk_len (by omega) (own_lower g2.la (Nat.zero_le _)) rfl, Sl_of_row cPn_len (by omega) (own_lower g2.pa (Nat.zero_le _)) rfl⟩
                have H14 : Hid (∀ w2, Below wr.heap.size wr w2 → Calls Try.prog 14 #[.agg #[vn, vl, vp]] w2 fun e w' => e = .returned (.int .i64 0) ∧ Below w2.heap.size w2 w') := Lib.hid fun w2 hb => Check_ok nsF (lsF c) (psF c) vn vl vp w2 (SA.out _ hb).1 (SA.out _ hb).2.1 (SA.out _ hb).2.2 (SndF HC1.out HC2.out) (by decide)
                have HE1 : Hid (∀ (w2 : World) (g : Nat), Below wr.heap.size wr w2 → w2.heap[g]? = some (.cells ([(⟨4, 63, 1, c, 0, ⟨0, 0⟩⟩ : Ed)].flatMap cEd).toArray 53 (0, 0)) → Calls Try.prog 12 #[.agg #[vn, vl, vp], .slice (some ⟨g, 0, none⟩) 1 1] w2 fun e w' => e = .returned (.tuple #[.agg #[.slice none 0 0, .slice none 0 0, .slice none 0 0], .int .i64 0, .int .i64 7]) ∧ Below w2.heap.size w2 w') := Lib.hid fun w2 g hb hg => Apply_ok nsF (lsF c) (psF c) _ _ vn vl vp _ w2 (SA.out _ hb).1 (SA.out _ hb).2.1 (SA.out _ hb).2.2 (Sl_block cEd_len (by omega) _ hg rfl (by simp)) (SndF HC1.out HC2.out) (by decide) (by simp) (runs_errL HC1.out HC2.out)
                have HE2 : Hid (∀ (w2 : World) (g : Nat), Below wr.heap.size wr w2 → w2.heap[g]? = some (.cells ([(⟨9, 4, 0, 0, 0, ⟨0, 0⟩⟩ : Ed)].flatMap cEd).toArray 53 (0, 0)) → Calls Try.prog 12 #[.agg #[vn, vl, vp], .slice (some ⟨g, 0, none⟩) 1 1] w2 fun e w' => e = .returned (.tuple #[.agg #[.slice none 0 0, .slice none 0 0, .slice none 0 0], .int .i64 0, .int .i64 7]) ∧ Below w2.heap.size w2 w') := Lib.hid fun w2 g hb hg => Apply_ok nsF (lsF c) (psF c) _ _ vn vl vp _ w2 (SA.out _ hb).1 (SA.out _ hb).2.1 (SA.out _ hb).2.2 (Sl_block cEd_len (by omega) _ hg rfl (by simp)) (SndF HC1.out HC2.out) (by decide) (by simp) (runs_errP c)
                have HE3 : Hid (∀ (w2 : World) (g : Nat), Below wr.heap.size wr w2 → w2.heap[g]? = some (.cells ([(⟨5, 0, 1, 0, 0, ⟨0, 0⟩⟩ : Ed), ⟨4, 63, 1, c, 0, ⟨0, 0⟩⟩, ⟨10, 3, 0, 0, 0, ⟨0, 24⟩⟩, ⟨9, 4, 0, 0, 0, ⟨0, 0⟩⟩].flatMap cEd).toArray 53 (0, 0)) → Calls Try.prog 12 #[.agg #[vn, vl, vp], .slice (some ⟨g, 0, none⟩) 4 4] w2 fun e w' => (∃ A1 n1 c1 A2 c2 A3 c3, e = .returned (.tuple #[.agg #[.slice A1 n1 c1, .slice A2 2048 c2, .slice A3 1024 c3], .int .i64 0, .int .i64 0])) ∧ Below w2.heap.size w2 w') := Lib.hid fun w2 g hb hg => by
                  obtain ⟨G, hR, hl, hp⟩ := runs_ok HC1.out HC2.out
                  refine (Apply_ok nsF (lsF c) (psF c) _ _ vn vl vp _ w2 (SA.out _ hb).1 (SA.out _ hb).2.1 (SA.out _ hb).2.2 (Sl_block cEd_len (by omega) _ hg rfl (by simp)) (SndF HC1.out HC2.out) (by decide) (by simp) hR).mono ?_
                  rintro e w3 ⟨⟨ua, ub, uc, rfl, o1, o2, o3⟩, hb3⟩
                  obtain ⟨A1, c1, hv1, -⟩ := Sl_of_row cNd_len (by omega) o1 rfl
                  obtain ⟨A2, c2, hv2, -⟩ := Sl_of_row cLk_len (by omega) o2 rfl
                  obtain ⟨A3, c3, hv3, -⟩ := Sl_of_row cPn_len (by omega) o3 rfl
                  subst hv1 hv2 hv3
                  rw [hl, hp]
                  exact ⟨⟨_, _, _, _, _, _, _, rfl⟩, hb3⟩
                obtain ⟨y0, y1, y2⟩ := GA.out.cells
                go_wp2_with fail
                refine (HE1.out _ _ ((Below.refl _ _).alloc (Nat.le_refl _) _) (by first | exact heap_at rfl | exact heap_at (by simp))).mono ?_
                rintro e w1 ⟨rfl, hb1⟩
                have D1 := ((((Below.refl wr.heap.size wr).alloc (Nat.le_refl _) _).trans (hb1.mono (by simp))).alloc (Nat.le_trans (by simp) hb1.size) (.cells #[.slice none 0 0, .slice none 0 0, .slice none 0 0] 33))
                have D1' := Lib.hid D1
                replace y0 := bcell D1 y0
                replace y1 := bcell D1 y1
                replace y2 := bcell D1 y2
                clear hb1 D1
                go_wp2_with fail
                refine (HE2.out _ _ (D1'.out.alloc D1'.out.size _) (by first | exact heap_at rfl | exact heap_at (by simp))).mono ?_
                rintro e w3 ⟨rfl, hb1⟩
                have D3 := (((D1'.out.alloc D1'.out.size _).trans (hb1.mono (by have := D1'.out.size; simp at this ⊢; omega))).alloc (Nat.le_trans (by have := D1'.out.size; simp at this ⊢; omega) hb1.size) (.cells #[.slice none 0 0, .slice none 0 0, .slice none 0 0] 33))
                have E3 := (((Below.refl (w1.alloc (.cells #[.slice none 0 0, .slice none 0 0, .slice none 0 0] 33)).heap.size (w1.alloc (.cells #[.slice none 0 0, .slice none 0 0, .slice none 0 0] 33))).alloc (Nat.le_refl _) _).trans (hb1.mono (by simp))).alloc (Nat.le_trans (by simp) hb1.size) (.cells #[.slice none 0 0, .slice none 0 0, .slice none 0 0] 33)
                have D3' := Lib.hid D3
                replace y0 := bcell E3 y0
                replace y1 := bcell E3 y1
                replace y2 := bcell E3 y2
                clear hb1 D3 E3 D1'
                go_wp2_with fail
                refine (HE3.out _ _ (D3'.out.alloc D3'.out.size _) (by first | exact heap_at rfl | exact heap_at (by simp))).mono ?_
                rintro e w5 ⟨⟨A1, n1, c1, A2, c2, A3, c3, rfl⟩, hb1⟩
                have D5 := (((D3'.out.alloc D3'.out.size _).trans (hb1.mono (by have := D3'.out.size; simp at this ⊢; omega))).alloc (Nat.le_trans (by have := D3'.out.size; simp at this ⊢; omega) hb1.size) (.cells #[.slice A1 n1 c1, .slice A2 2048 c2, .slice A3 1024 c3] 33))
                have D5' := Lib.hid D5
                clear hb1 D5 D3' y0 y1 y2
                go_wp2_with fail
                refine (awake_ok _).mono ?_
                rintro e w6 ⟨rfl, hb6⟩
                have hz := heap_keep hb6 (heap_at (W := w5) (ob := .cells #[.slice A1 n1 c1, .slice A2 2048 c2, .slice A3 1024 c3] 33) rfl)
                have D6 := Lib.hid (bthen' D5'.out D5'.out.size hb6)
                have HZ := Lib.hid hz
                have g6 := GA.out.below D6.out
                obtain ⟨y0, y1, y2⟩ := g6.cells
                clear hb6 hz g6
                go_wp2_with fail
                refine (H14.out _ D6.out).mono ?_
                rintro e w7 ⟨rfl, hb7⟩
                have z1 : w7.cell? ⟨w5.heap.size, 1, none⟩ = some (.slice A2 2048 c2) := bcell hb7 (by simp [World.cell?, HZ.out])
                have z2 : w7.cell? ⟨w5.heap.size, 2, none⟩ = some (.slice A3 1024 c3) := bcell hb7 (by simp [World.cell?, HZ.out])
                have D7 := Lib.hid (BA.out.trans ((bthen' D6.out D6.out.size hb7).mono BA.out.size))
                clear hb7 y0 y1 y2
                go_wp2_with fail
                go_ret
                exact ⟨rfl, D7.out⟩
  · obtain ⟨c, hc⟩ : ∃ c, c = cost + 1 := ⟨_, rfl⟩
    have hwc : IntKind.i64.wrap (cost + 1) = c := by rw [IntKind.wrap_i64]; omega
    have hwc0 : IntKind.i64.wrap cost = cost := by rw [IntKind.wrap_i64]; omega
    have hwc1 : IntKind.i64.wrap (c - 1) = c - 1 := by rw [IntKind.wrap_i64]; omega
    have hc1 : 1 ≤ c := by omega
    have hc2 : c ≤ 65535 := by omega
    have HC1 := Lib.hid hc1
    have HC2 := Lib.hid hc2
    clear h2 hc h1 hc1
    go_enter Try.func4, Try.ntmps4
    go_wp2_with fail
    clear h0
    obtain ⟨h, hh⟩ : ∃ h, h = w.heap.size := ⟨_, rfl⟩
    have HH := Lib.hid hh
    go_loopw [5] (fun i wr => ∃ (k : Nat) (va : Value), k ≤ 64 ∧ i = .int .i64 k ∧ Hid (GS w.heap.size wr w.heap.size va (.slice none 0 0) (.slice none 0 0) (nsU k) [] []) ∧ Hid (Below w.heap.size w wr)) (fun i _ => 64 - (intOf i).toNat)
    case atStart => exact ⟨0, _, by decide, rfl, Lib.hid ⟨Nat.le_refl _, heap_at rfl, ⟨rfl, .inl ⟨rfl, rfl⟩⟩, ⟨rfl, .inl ⟨rfl, rfl⟩⟩, ⟨rfl, .inl ⟨rfl, rfl⟩⟩⟩, Lib.hid ((Below.refl _ _).alloc (Nat.le_refl _) _)⟩
    case round =>
      obtain ⟨k, va, hk, rfl, hg, hbw⟩ := hrel
      have y0 := hg.out.cells.1
      by_cases hlt : k < 64
      · have hwk1 : IntKind.i64.wrap ((k : Int) + 1) = (k : Int) + 1 := by rw [IntKind.wrap_i64]; omega
        have hkn : (k : Int) < 64 := by omega
        go_wp2_with (at_builtin; refine wpList_appNd rfl (.tmp 29) (.tmp 32) rfl w.heap.size wr.heap.size va (nsU k) ⟨(k : Int)⟩ rfl rfl (own_below hg.out.na ((Below.refl _ _).alloc (Nat.le_refl _) _)) (heap_at rfl) (by rw [nsU_l]; omega) (by have := hbw.out.size; simp; omega) ?_; intro v' w5 ho5 hg5; obtain ⟨G1, y1, f1, b1, A1, c1, hv1⟩ := appNd hg.out hg5 ho5; subst hv1; have G1' := Lib.hid G1; have B1' := Lib.hid (b1 _ hbw.out); clear G1 b1 ho5 hg5)
        go_roundw
        case rel => exact ⟨k + 1, _, by omega, by go_num, by rw [nsU_s]; exact G1', B1'⟩
        case measure => simp [intOf]; omega
      · have hkn : k = 64 := by omega
        have hke : (k : Int) = 64 := by omega
        rw [hke]
        have GA : Hid (GS w.heap.size wr w.heap.size va (.slice none 0 0) (.slice none 0 0) nsF [] []) := Lib.hid (by have := hg.out; rw [hkn] at this; exact this)
        have BA := Lib.hid hbw.out
        obtain ⟨vn, rfl⟩ : ∃ vn : Value, vn = va := ⟨_, rfl⟩
        clear hlt hk y0 hg hbw hke hkn
        go_wp2_with fail
        go_loopw [6] (fun i wr => ∃ (a : Nat) (vb : Value), a ≤ 64 ∧ i = .int .i64 a ∧ Hid (GS w.heap.size wr w.heap.size vn vb (.slice none 0 0) nsF (lsU c (cnt a 0)) []) ∧ Hid (Below w.heap.size w wr)) (fun i _ => 64 - (intOf i).toNat)
        case atStart => exact ⟨0, _, by decide, rfl, GA, BA⟩
        case round =>
          clear GA BA
          obtain ⟨a, vb, ha, rfl, hg, hbw⟩ := hrel
          by_cases hlt : a < 64
          · have hwk1 : IntKind.i64.wrap ((a : Int) + 1) = (a : Int) + 1 := by rw [IntKind.wrap_i64]; omega
            have hkn : (a : Int) < 64 := by omega
            go_wp2_with fail
            go_loopw [7] (fun i wr => ∃ (b m : Nat) (vb : Value), b ≤ 64 ∧ i = .int .i64 b ∧ m = cnt a b ∧ Hid (GS w.heap.size wr w.heap.size vn vb (.slice none 0 0) nsF (lsU c m) []) ∧ Hid (Below w.heap.size w wr)) (fun i _ => 64 - (intOf i).toNat)
            case atStart => exact ⟨0, _, _, by decide, rfl, rfl, hg, hbw⟩
            case round =>
              clear hg hbw
              obtain ⟨b, m, vb', hb, rfl, hm, hg, hbw⟩ := hrel
              obtain ⟨A, cc, hv, -⟩ := Sl_of_row cLk_len (by omega) hg.out.la rfl
              rw [lsU_l] at hv
              subst hv
              have y1 := hg.out.cells.2.1
              have hmle : m ≤ 2048 := by rw [hm]; unfold cnt; omega
              have HM := Lib.hid hm
              clear hm
              by_cases hlb : b < 64
              · have hbi : (b : Int) < 64 := by omega
                have hwb1 : IntKind.i64.wrap ((b : Int) + 1) = (b : Int) + 1 := by rw [IntKind.wrap_i64]; omega
                by_cases hm2 : m < 2048
                · have hmi : (m : Int) < 2048 := by omega
                  by_cases hab : a = b
                  · subst hab
                    go_wp2_with fail
                    go_roundw
                    case rel => exact ⟨a + 1, m, _, by omega, by go_num, by rw [HM.out]; unfold cnt; split <;> split <;> omega, hg, hbw⟩
                    case measure => simp [intOf]; omega
                  · have habi : ((a : Int) = (b : Int)) = False := eq_false (by omega)
                    have HE := Lib.hid (lkF_at (c := c) hlb hlt hab HM.out hm2)
                    have HS : Hid (cnt a (b + 1) = m + 1) := Lib.hid (by have := HM.out; unfold cnt at this ⊢; split at this <;> split <;> omega)
                    go_wp2_with (at_builtin; refine wpList_appLk rfl (.tmp 53) (.tmp 58) rfl w.heap.size wr.heap.size (.slice A m cc) (lsU c m) ⟨(a : Int), (b : Int), c, 0⟩ rfl rfl (own_below hg.out.la ((Below.refl _ _).alloc (Nat.le_refl _) _)) (heap_at rfl) (by rw [lsU_l]; omega) (by have := hbw.out.size; simp; omega) ?_; intro v' w5 ho5 hg5; obtain ⟨G1, y2, f1, b1, A1, c1, hv1⟩ := appLk hg.out hg5 ho5; subst hv1; have G1' := Lib.hid G1; have B1' := Lib.hid (b1 _ hbw.out); clear G1 b1 ho5 hg5)
                    go_roundw
                    case rel => exact ⟨b + 1, m + 1, _, by omega, by go_num, HS.out.symm, by rw [lsU_s, HE.out]; exact G1', B1'⟩
                    case measure => simp [intOf]; omega
                · have hmi : ¬ (m : Int) < 2048 := by omega
                  have hme : m = 2048 := by omega
                  have HS : Hid (cnt (a + 1) 0 = m) := Lib.hid (by have := HM.out; unfold cnt at this ⊢; split at this <;> split <;> omega)
                  go_wp2_with fail
                  go_roundw
                  case rel => exact ⟨a + 1, _, by omega, by go_num, by rw [HS.out]; exact hg, hbw⟩
                  case measure => simp [intOf]; omega
              · have hbe : b = 64 := by omega
                subst hbe
                have HS : Hid (cnt (a + 1) 0 = m) := Lib.hid (by have := HM.out; unfold cnt at this ⊢; split at this <;> split <;> omega)
                go_wp2_with fail
                go_roundw
                case rel => exact ⟨a + 1, _, by omega, by go_num, by rw [HS.out]; exact hg, hbw⟩
                case measure => simp [intOf]; omega
          · have hae : a = 64 := by omega
            have hke : (a : Int) = 64 := by omega
            rw [hke]
            have GA : Hid (GS w.heap.size wr w.heap.size vn vb (.slice none 0 0) nsF (lsF c) []) := Lib.hid (by have := hg.out; rw [hae] at this; exact this)
            have BA := Lib.hid hbw.out
            obtain ⟨vl, rfl⟩ : ∃ vn : Value, vn = vb := ⟨_, rfl⟩
            clear hlt ha hg hbw hke hae
            go_wp2_with fail
            go_loopw [8] (fun i wr => ∃ (k : Nat) (vc : Value), k ≤ 1024 ∧ i = .int .i64 k ∧ Hid (GS w.heap.size wr w.heap.size vn vl vc nsF (lsF c) (psU c k)) ∧ Hid (Below w.heap.size w wr)) (fun i _ => 1024 - (intOf i).toNat)
            case atStart => exact ⟨0, _, by decide, rfl, GA, BA⟩
            case round =>
              clear GA BA
              obtain ⟨k, vc, hk, rfl, hg, hbw⟩ := hrel
              have y2 := hg.out.cells.2.2
              by_cases hlt : k < 1024
              · have hwk1 : IntKind.i64.wrap ((k : Int) + 1) = (k : Int) + 1 := by rw [IntKind.wrap_i64]; omega
                have hkn : (k : Int) < 1024 := by omega
                go_wp2_with (at_builtin; refine wpList_appPn rfl (.tmp 66) (.tmp 74) rfl w.heap.size wr.heap.size vc (psU c k) ⟨⟨(k : Int) * 256, 24⟩, 3, c - 1⟩ rfl rfl (own_below hg.out.pa ((Below.refl _ _).alloc (Nat.le_refl _) _)) (heap_at rfl) (by rw [psU_l]; omega) (by have := hbw.out.size; simp; omega) ?_; intro v' w5 ho5 hg5; obtain ⟨G1, y3, f1, b1, A1, c1, hv1⟩ := appPn hg.out hg5 ho5; subst hv1; have G1' := Lib.hid G1; have B1' := Lib.hid (b1 _ hbw.out); clear G1 b1 ho5 hg5)
                go_roundw
                case rel => exact ⟨k + 1, _, by omega, by go_num, by rw [psU_s, show pnF c k = ⟨⟨(k : Int) * 256, 24⟩, 3, c - 1⟩ from by simp [pnF, Int.mul_comm]]; exact G1', B1'⟩
                case measure => simp [intOf]; omega
              · have hke : (k : Int) = 1024 := by omega
                rw [hke]
                have GA : Hid (GS w.heap.size wr w.heap.size vn vl vc nsF (lsF c) (psF c)) := Lib.hid (by have := hg.out; rw [show k = 1024 by omega] at this; exact this)
                have BA := Lib.hid hbw.out
                obtain ⟨vp, rfl⟩ : ∃ vn : Value, vn = vc := ⟨_, rfl⟩
                clear hlt hk hg hbw hke y2
                have SA : Hid (∀ w2, Below wr.heap.size wr w2 → Sl cNd 3 0 w2 vn nsF ∧ Sl cLk 4 0 w2 vl (lsF c) ∧ Sl cPn 4 0 w2 vp (psF c)) := Lib.hid fun w2 hb => by
                  have g2 := GA.out.below hb
                  exact ⟨Sl_of_row cNd_len (by omega) (own_lower g2.na (Nat.zero_le _)) rfl, Sl_of_row cLk_len (by omega) (own_lower g2.la (Nat.zero_le _)) rfl, Sl_of_row cPn_len (by omega) (own_lower g2.pa (Nat.zero_le _)) rfl⟩
                have H14 : Hid (∀ w2, Below wr.heap.size wr w2 → Calls Try.prog 14 #[.agg #[vn, vl, vp]] w2 fun e w' => e = .returned (.int .i64 0) ∧ Below w2.heap.size w2 w') := Lib.hid fun w2 hb => Check_ok nsF (lsF c) (psF c) vn vl vp w2 (SA.out _ hb).1 (SA.out _ hb).2.1 (SA.out _ hb).2.2 (SndF HC1.out HC2.out) (by decide)
                have HE1 : Hid (∀ (w2 : World) (g : Nat), Below wr.heap.size wr w2 → w2.heap[g]? = some (.cells ([(⟨4, 63, 1, c, 0, ⟨0, 0⟩⟩ : Ed)].flatMap cEd).toArray 53 (0, 0)) → Calls Try.prog 12 #[.agg #[vn, vl, vp], .slice (some ⟨g, 0, none⟩) 1 1] w2 fun e w' => e = .returned (.tuple #[.agg #[.slice none 0 0, .slice none 0 0, .slice none 0 0], .int .i64 0, .int .i64 7]) ∧ Below w2.heap.size w2 w') := Lib.hid fun w2 g hb hg => Apply_ok nsF (lsF c) (psF c) _ _ vn vl vp _ w2 (SA.out _ hb).1 (SA.out _ hb).2.1 (SA.out _ hb).2.2 (Sl_block cEd_len (by omega) _ hg rfl (by simp)) (SndF HC1.out HC2.out) (by decide) (by simp) (runs_errL HC1.out HC2.out)
                have HE2 : Hid (∀ (w2 : World) (g : Nat), Below wr.heap.size wr w2 → w2.heap[g]? = some (.cells ([(⟨9, 4, 0, 0, 0, ⟨0, 0⟩⟩ : Ed)].flatMap cEd).toArray 53 (0, 0)) → Calls Try.prog 12 #[.agg #[vn, vl, vp], .slice (some ⟨g, 0, none⟩) 1 1] w2 fun e w' => e = .returned (.tuple #[.agg #[.slice none 0 0, .slice none 0 0, .slice none 0 0], .int .i64 0, .int .i64 7]) ∧ Below w2.heap.size w2 w') := Lib.hid fun w2 g hb hg => Apply_ok nsF (lsF c) (psF c) _ _ vn vl vp _ w2 (SA.out _ hb).1 (SA.out _ hb).2.1 (SA.out _ hb).2.2 (Sl_block cEd_len (by omega) _ hg rfl (by simp)) (SndF HC1.out HC2.out) (by decide) (by simp) (runs_errP c)
                have HE3 : Hid (∀ (w2 : World) (g : Nat), Below wr.heap.size wr w2 → w2.heap[g]? = some (.cells ([(⟨5, 0, 1, 0, 0, ⟨0, 0⟩⟩ : Ed), ⟨4, 63, 1, c, 0, ⟨0, 0⟩⟩, ⟨10, 3, 0, 0, 0, ⟨0, 24⟩⟩, ⟨9, 4, 0, 0, 0, ⟨0, 0⟩⟩].flatMap cEd).toArray 53 (0, 0)) → Calls Try.prog 12 #[.agg #[vn, vl, vp], .slice (some ⟨g, 0, none⟩) 4 4] w2 fun e w' => (∃ A1 n1 c1 A2 c2 A3 c3, e = .returned (.tuple #[.agg #[.slice A1 n1 c1, .slice A2 2048 c2, .slice A3 1024 c3], .int .i64 0, .int .i64 0])) ∧ Below w2.heap.size w2 w') := Lib.hid fun w2 g hb hg => by
                  obtain ⟨G, hR, hl, hp⟩ := runs_ok HC1.out HC2.out
                  refine (Apply_ok nsF (lsF c) (psF c) _ _ vn vl vp _ w2 (SA.out _ hb).1 (SA.out _ hb).2.1 (SA.out _ hb).2.2 (Sl_block cEd_len (by omega) _ hg rfl (by simp)) (SndF HC1.out HC2.out) (by decide) (by simp) hR).mono ?_
                  rintro e w3 ⟨⟨ua, ub, uc, rfl, o1, o2, o3⟩, hb3⟩
                  obtain ⟨A1, c1, hv1, -⟩ := Sl_of_row cNd_len (by omega) o1 rfl
                  obtain ⟨A2, c2, hv2, -⟩ := Sl_of_row cLk_len (by omega) o2 rfl
                  obtain ⟨A3, c3, hv3, -⟩ := Sl_of_row cPn_len (by omega) o3 rfl
                  subst hv1 hv2 hv3
                  rw [hl, hp]
                  exact ⟨⟨_, _, _, _, _, _, _, rfl⟩, hb3⟩
                obtain ⟨y0, y1, y2⟩ := GA.out.cells
                go_wp2_with fail
                refine (HE1.out _ _ ((Below.refl _ _).alloc (Nat.le_refl _) _) (by first | exact heap_at rfl | exact heap_at (by simp))).mono ?_
                rintro e w1 ⟨rfl, hb1⟩
                have D1 := ((((Below.refl wr.heap.size wr).alloc (Nat.le_refl _) _).trans (hb1.mono (by simp))).alloc (Nat.le_trans (by simp) hb1.size) (.cells #[.slice none 0 0, .slice none 0 0, .slice none 0 0] 33))
                have D1' := Lib.hid D1
                replace y0 := bcell D1 y0
                replace y1 := bcell D1 y1
                replace y2 := bcell D1 y2
                clear hb1 D1
                go_wp2_with fail
                refine (HE2.out _ _ (D1'.out.alloc D1'.out.size _) (by first | exact heap_at rfl | exact heap_at (by simp))).mono ?_
                rintro e w3 ⟨rfl, hb1⟩
                have D3 := (((D1'.out.alloc D1'.out.size _).trans (hb1.mono (by have := D1'.out.size; simp at this ⊢; omega))).alloc (Nat.le_trans (by have := D1'.out.size; simp at this ⊢; omega) hb1.size) (.cells #[.slice none 0 0, .slice none 0 0, .slice none 0 0] 33))
                have E3 := (((Below.refl (w1.alloc (.cells #[.slice none 0 0, .slice none 0 0, .slice none 0 0] 33)).heap.size (w1.alloc (.cells #[.slice none 0 0, .slice none 0 0, .slice none 0 0] 33))).alloc (Nat.le_refl _) _).trans (hb1.mono (by simp))).alloc (Nat.le_trans (by simp) hb1.size) (.cells #[.slice none 0 0, .slice none 0 0, .slice none 0 0] 33)
                have D3' := Lib.hid D3
                replace y0 := bcell E3 y0
                replace y1 := bcell E3 y1
                replace y2 := bcell E3 y2
                clear hb1 D3 E3 D1'
                go_wp2_with fail
                refine (HE3.out _ _ (D3'.out.alloc D3'.out.size _) (by first | exact heap_at rfl | exact heap_at (by simp))).mono ?_
                rintro e w5 ⟨⟨A1, n1, c1, A2, c2, A3, c3, rfl⟩, hb1⟩
                have D5 := (((D3'.out.alloc D3'.out.size _).trans (hb1.mono (by have := D3'.out.size; simp at this ⊢; omega))).alloc (Nat.le_trans (by have := D3'.out.size; simp at this ⊢; omega) hb1.size) (.cells #[.slice A1 n1 c1, .slice A2 2048 c2, .slice A3 1024 c3] 33))
                have D5' := Lib.hid D5
                clear hb1 D5 D3' y0 y1 y2
                go_wp2_with fail
                refine (awake_ok _).mono ?_
                rintro e w6 ⟨rfl, hb6⟩
                have hz := heap_keep hb6 (heap_at (W := w5) (ob := .cells #[.slice A1 n1 c1, .slice A2 2048 c2, .slice A3 1024 c3] 33) rfl)
                have D6 := Lib.hid (bthen' D5'.out D5'.out.size hb6)
                have HZ := Lib.hid hz
                have g6 := GA.out.below D6.out
                obtain ⟨y0, y1, y2⟩ := g6.cells
                clear hb6 hz g6
                go_wp2_with fail
                refine (H14.out _ D6.out).mono ?_
                rintro e w7 ⟨rfl, hb7⟩
                have z1 : w7.cell? ⟨w5.heap.size, 1, none⟩ = some (.slice A2 2048 c2) := bcell hb7 (by simp [World.cell?, HZ.out])
                have z2 : w7.cell? ⟨w5.heap.size, 2, none⟩ = some (.slice A3 1024 c3) := bcell hb7 (by simp [World.cell?, HZ.out])
                have D7 := Lib.hid (BA.out.trans ((bthen' D6.out D6.out.size hb7).mono BA.out.size))
                clear hb7 y0 y1 y2
                go_wp2_with fail
                go_ret
                exact ⟨rfl, D7.out⟩

end Go.Proofs.Ytpklcefiabjplaa
