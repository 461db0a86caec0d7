/- The ring of the law is made; conditions as stated. -/
import Derived.Test.YtpklcefiabjplaaT11
namespace Go.Proofs.Ytpklcefiabjplaa
open Go.ChangeShapes Go.WideShapes Go.ChangeAt Go.RowKit
set_option linter.unusedVariables false
set_option linter.unusedSimpArgs false
attribute [local go_sem] Og.Opt Og.OpY

attribute [local go_sem] Og.Opt Og.OpY
theorem GS.hBw2 {B : Nat} {w : World} {h : Nat} {va vb vc : Value} {ns : List Nd} {ls : List Lk} {ps : List Pn} (g : GS B w h va vb vc ns ls ps) : B ≤ w.heap.size := Nat.le_of_lt (Nat.lt_of_le_of_lt g.hB (Array.getElem?_eq_some_iff.1 g.hh).1)
theorem appNd' {B h : Nat} {va vb vc v' : Value} {ns : List Nd} {ls : List Lk} {ps : List Pn} {r : Nd} {w w5 : World} {ob : Obj} (g : GS B w h va vb vc ns ls ps) (hg : (w.alloc ob).grownBy w5 va.ownBlock) (ho : w5.ownsRow B 41 3 v' (ns ++ [r]).length ((ns ++ [r]).flatMap cNd)) :
    GS B (w5.setCell ⟨h, 0, none⟩ v') h v' vb vc (ns ++ [r]) ls ps ∧ w5.cell? ⟨h, 0, none⟩ = some va ∧ w5.frozen? ⟨h, 0, none⟩ = false ∧ (∀ W, Below B W w → Below B W (w5.setCell ⟨h, 0, none⟩ v')) ∧ ∃ A c, v' = .slice A (ns.length + 1) c := by
  have ba : Below w.heap.size w (w.alloc ob) := (Below.refl _ _).alloc (Nat.le_refl _) _
  have g1 := g.below ba
  have hh := heap_grown hg g1.hh (fun e => own_at g1.na g1.hh (by decide) e.symm)
  obtain ⟨A, c, hv, -⟩ := Sl_of_row cNd_len (by omega) ho rfl
  rw [List.length_append] at hv
  exact ⟨g1.setN hg ho, by simp [World.cell?, hh], by simp [World.frozen?, hh], fun W hW => ((hW.trans (ba.mono g.hBw2)).grown hg (by have := g.hBw2; simp; omega) (fun j hj => (g.na.lt j hj).1)).setCell (p := ⟨h, 0, none⟩) g.hB _, A, c, hv⟩
theorem appLk' {B h : Nat} {va vb vc v' : Value} {ns : List Nd} {ls : List Lk} {ps : List Pn} {r : Lk} {w w5 : World} {ob : Obj} (g : GS B w h va vb vc ns ls ps) (hg : (w.alloc ob).grownBy w5 vb.ownBlock) (ho : w5.ownsRow B 43 4 v' (ls ++ [r]).length ((ls ++ [r]).flatMap cLk)) :
    GS B (w5.setCell ⟨h, 1, none⟩ v') h va v' vc ns (ls ++ [r]) ps ∧ w5.cell? ⟨h, 1, none⟩ = some vb ∧ w5.frozen? ⟨h, 1, none⟩ = false ∧ (∀ W, Below B W w → Below B W (w5.setCell ⟨h, 1, none⟩ v')) ∧ ∃ A c, v' = .slice A (ls.length + 1) c := by
  have ba : Below w.heap.size w (w.alloc ob) := (Below.refl _ _).alloc (Nat.le_refl _) _
  have g1 := g.below ba
  have hh := heap_grown hg g1.hh (fun e => own_at g1.la g1.hh (by decide) e.symm)
  obtain ⟨A, c, hv, -⟩ := Sl_of_row cLk_len (by omega) ho rfl
  rw [List.length_append] at hv
  exact ⟨g1.setL hg ho, by simp [World.cell?, hh], by simp [World.frozen?, hh], fun W hW => ((hW.trans (ba.mono g.hBw2)).grown hg (by have := g.hBw2; simp; omega) (fun j hj => (g.la.lt j hj).1)).setCell (p := ⟨h, 1, none⟩) g.hB _, A, c, hv⟩

def adjB (n a b : Nat) : Bool := decide (b = a + 1) || decide (a = b + 1) || (decide (a = 1) && decide (b = n)) || (decide (a = n) && decide (b = 1))
def nsR (k : Nat) : List Nd := (List.range k).map fun i : Nat => ⟨((i + 1 : Nat) : Int)⟩
def rowR (n : Nat) (c : Int) (a j : Nat) : List Lk := ((List.range j).filter fun b => adjB n a (b + 1)).map fun b => ⟨(a : Int), ((b + 1 : Nat) : Int), c, 0⟩
def lsRp (n : Nat) (c : Int) (k : Nat) : List Lk := (List.range k).flatMap fun a => rowR n c (a + 1) n
def lsR (n : Nat) (c : Int) : List Lk := lsRp n c n
theorem nsR_s {a : Nat} (h : 1 ≤ a) : nsR a = nsR (a - 1) ++ [⟨(a : Int)⟩] := by
  obtain ⟨k, rfl⟩ : ∃ k, a = k + 1 := ⟨a - 1, by omega⟩
  simp [nsR, List.range_succ]
theorem rowR_s {n : Nat} {c : Int} {a b : Nat} (h : 1 ≤ b) : rowR n c a b = rowR n c a (b - 1) ++ (if adjB n a b = true then [⟨(a : Int), (b : Int), c, 0⟩] else []) := by
  obtain ⟨j, rfl⟩ : ∃ j, b = j + 1 := ⟨b - 1, by omega⟩
  unfold rowR
  rw [List.range_succ, List.filter_append, List.map_append]
  congr 1
  cases hp : adjB n a (j + 1) <;> simp [hp]
theorem lsRp_s {n : Nat} {c : Int} {a : Nat} (h : 1 ≤ a) : lsRp n c a = lsRp n c (a - 1) ++ rowR n c a n := by
  obtain ⟨k, rfl⟩ : ∃ k, a = k + 1 := ⟨a - 1, by omega⟩
  simp [lsRp, List.range_succ, List.flatMap_append]
theorem rowR_len (n : Nat) (c : Int) (a j : Nat) : (rowR n c a j).length ≤ j := by
  unfold rowR
  rw [List.length_map]
  exact Nat.le_trans (List.length_filter_le ..) (by simp)
theorem lsRp_len (n : Nat) (c : Int) : ∀ k, (lsRp n c k).length ≤ k * n
  | 0 => by simp [lsRp]
  | k + 1 => by
    rw [lsRp_s (by omega), List.length_append, Nat.add_sub_cancel, Nat.succ_mul]
    have := lsRp_len n c k
    have := rowR_len n c (k + 1) n
    omega
theorem GS.cells' {B : Nat} {w : World} {h : Nat} {va vb vc : Value} {ns : List Nd} {ls : List Lk} {ps : List Pn} (g : GS B w h va vb vc ns ls ps) : w.cell? ⟨h, 0, none⟩ = some va ∧ w.cell? ⟨h, 1, none⟩ = some vb ∧ w.cell? ⟨h, 2, none⟩ = some vc := ⟨by simp [World.cell?, g.hh], by simp [World.cell?, g.hh], by simp [World.cell?, g.hh]⟩
theorem nsR_l (k : Nat) : (nsR k).length = k := by simp [nsR]
theorem keep2 {w w9 : World} {z n : Nat} {c : Int} {va vb vc : Value} (hn9 : ∀ k, k ≠ z → w9.heap[k]? = w.heap[k]?) (hs9 : w9.heap.size = w.heap.size) (g : GS (z + 1) w (z + 1) va vb vc (nsR n) (lsR n c) []) (hb : Below 0 w w9) : w9.ownsRow z 41 3 va n ((nsR n).flatMap cNd) ∧ w9.ownsRow z 43 4 vb (lsR n c).length ((lsR n c).flatMap cLk) := by
  have hg : w.grownBy w9 (some z) := ⟨hb.os, hb.tape, hb.output, hb.size, fun k _ hk => hn9 k (fun e => hk (by rw [e]))⟩
  refine ⟨?_, ?_⟩
  · have h := own_lower (g.na.kept hg (.inr (fun e => by have := (g.na.lt z e).1; omega))) (show z ≤ z + 1 by omega)
    rwa [nsR_l] at h
  · exact own_lower (g.la.kept hg (.inr (fun e => by have := (g.la.lt z e).1; omega))) (show z ≤ z + 1 by omega)
theorem alloc_le2 {n : Nat} {w : World} {ob : Obj} (h : n ≤ w.heap.size) : n ≤ (w.alloc ob).heap.size := by simp; omega
set_option maxRecDepth 100000 in
set_option maxHeartbeats 16000000 in
theorem ring_ok (n : Nat) (c : Int) (hn3 : 3 ≤ n) (hn : n ≤ 128) (w : World) : Calls Try.prog 7 #[.int .i64 n, .int .i64 c] w fun e w' => (∃ va vb vc, e = .returned (.agg #[va, vb, vc]) ∧ w'.ownsRow w.heap.size 41 3 va n ((nsR n).flatMap cNd) ∧ w'.ownsRow w.heap.size 43 4 vb (lsR n c).length ((lsR n c).flatMap cLk) ∧ vc = .slice none 0 0) ∧ Below w.heap.size w w' := by
  obtain ⟨z, hz⟩ : ∃ z, z = w.heap.size := ⟨_, rfl⟩
  have b1 : Below w.heap.size w (w.alloc (.cells #[.slice none 0 0, .slice none 0 0, .slice none 0 0] 33)) := (Below.refl _ _).alloc (Nat.le_refl _) _
  have k1 : (w.alloc (.cells #[.slice none 0 0, .slice none 0 0, .slice none 0 0] 33)).heap[z]? = some (.cells #[.slice none 0 0, .slice none 0 0, .slice none 0 0] 33 (0, 0)) := heap_at hz
  have s1 : (w.alloc (.cells #[.slice none 0 0, .slice none 0 0, .slice none 0 0] 33)).heap.size = z + 1 := by rw [hz]; simp
  have HZ := Lib.hid hz
  go_enter Try.func7, Try.ntmps7
  rw [← hz] at b1
  have B1 := Lib.hid b1
  have K1 := Lib.hid k1
  clear b1 k1
  go_wp2_with (first | (refine wpList_storeN rfl 33 (.tmp 5) (.tmp 8) rfl rfl (w.heap.size + 1) #[.slice none 0 0, .slice none 0 0, .slice none 0 0] rfl rfl 33 _ (heap_at (by simp)) info33s rfl (by simp [Value.oneCell']) ?_; intro w2 hz2 hb2 hn2 hs2; have Z2 := Lib.hid hz2; have N2 := Lib.hid hn2; have SZ2 := Lib.hid hs2; have BB2 := Lib.hid hb2; clear hz2 hb2 hn2 hs2))
  rw [← hz] at Z2 N2 BB2 ⊢
  have B2 : Hid (Below z w w2) := Lib.hid (((B1.out).alloc (by rw [s1]; omega) _).trans (BB2.out _ (by omega)))
  have K2 : Hid (w2.heap[z]? = some (.cells #[.slice none 0 0, .slice none 0 0, .slice none 0 0] 33 (0, 0))) := Lib.hid ((N2.out z (by omega)).trans (heap_keep ((Below.refl _ _).alloc (Nat.le_refl _) _) K1.out))
  clear s1 N2 SZ2 BB2 B1 K1 hz
  have G2 : Hid (GS (z + 1) w2 (z + 1) (.slice none 0 0) (.slice none 0 0) (.slice none 0 0) (nsR (1 - 1)) (lsRp n c (1 - 1)) []) := Lib.hid ⟨Nat.le_refl _, Z2.out, World.ownsRow_nil _ _ _ _, World.ownsRow_nil _ _ _ _, World.ownsRow_nil _ _ _ _⟩
  clear Z2
  go_loopw [6] (fun i wr => ∃ (a : Nat) (va vb : Value), 1 ≤ a ∧ a ≤ n + 1 ∧ i = .int .i64 a ∧ Hid (GS (z + 1) wr (z + 1) va vb (.slice none 0 0) (nsR (a - 1)) (lsRp n c (a - 1)) []) ∧ Hid (Below (z + 1) w2 wr)) (fun i _ => n + 1 - (intOf i).toNat)
  case atStart => exact ⟨1, _, _, Nat.le_refl _, by omega, rfl, G2, Lib.hid (Below.refl _ _)⟩
  case round =>
    clear G2
    obtain ⟨a, va, vb, ha1, ha2, rfl, hg, hbw⟩ := hrel
    have y0 := hg.out.cells'.1
    have SH : Hid (z + 1 ≤ wr.heap.size) := Lib.hid (Nat.le_of_lt (Array.getElem?_eq_some_iff.1 hg.out.hh).1)
    by_cases hlt : a ≤ n
    · have hwk1 : IntKind.i64.wrap ((a : Int) + 1) = (a : Int) + 1 := by rw [IntKind.wrap_i64]; omega
      have hkn : (a : Int) ≤ (n : Int) := by omega
      have HNL : Hid ((nsR (a - 1)).length ≤ 1172812402926) := Lib.hid (by simp [nsR]; omega)
      go_wp2_with (at_builtin; refine wpList_appNd rfl (.tmp 15) (.tmp 18) rfl (z + 1) _ va (nsR (a - 1)) ⟨(a : Int)⟩ rfl rfl (own_below hg.out.na ((Below.refl _ _).alloc (Nat.le_refl _) _)) (heap_at rfl) HNL.out (alloc_le2 SH.out) ?_; intro v5 w5 ho5 hg5; obtain ⟨G1, y5, f5, b5, A5, c5, hv5⟩ := appNd' hg.out hg5 ho5; subst hv5; have G51 := Lib.hid G1; have B5 := Lib.hid (b5 _ hbw.out); clear G1 b5 ho5 hg5)
      rw [← nsR_s ha1] at G51
      generalize (w5.setCell ⟨z + 1, 0, none⟩ (.slice A5 ((nsR (a - 1)).length + 1) c5)) = w6 at *
      clear y0 y5 f5 hg hbw SH
      generalize hva : (Value.slice A5 ((nsR (a - 1)).length + 1) c5) = va2 at *
      clear hva
      have G5 : Hid (GS (z + 1) w6 (z + 1) va2 vb (.slice none 0 0) (nsR a) (lsRp n c (a - 1) ++ rowR n c a (1 - 1)) []) := by simpa [rowR] using G51
      clear G51
      go_loopw [7] (fun i wr => ∃ (b : Nat) (vb : Value), 1 ≤ b ∧ b ≤ n + 1 ∧ i = .int .i64 b ∧ Hid (GS (z + 1) wr (z + 1) va2 vb (.slice none 0 0) (nsR a) (lsRp n c (a - 1) ++ rowR n c a (b - 1)) []) ∧ Hid (Below (z + 1) w2 wr)) (fun i _ => n + 1 - (intOf i).toNat)
      case atStart => exact ⟨1, _, Nat.le_refl _, by omega, rfl, G5, B5⟩
      case round =>
        clear G5 B5
        obtain ⟨b, vb, hb1, hb2, rfl, hg, hbw⟩ := hrel
        by_cases hlb : b ≤ n
        · have hvk1 : IntKind.i64.wrap ((b : Int) + 1) = (b : Int) + 1 := by rw [IntKind.wrap_i64]; omega
          have hbn : (b : Int) ≤ (n : Int) := by omega
          have hw1 : wrap64 ((b : Int) - (a : Int)) = (b : Int) - (a : Int) := by unfold wrap64; omega
          have hw2 : wrap64 ((a : Int) - (b : Int)) = (a : Int) - (b : Int) := by unfold wrap64; omega
          have hv1 : IntKind.i64.wrap ((b : Int) - (a : Int)) = (b : Int) - (a : Int) := by rw [IntKind.wrap_i64]; omega
          have hv2 : IntKind.i64.wrap ((a : Int) - (b : Int)) = (a : Int) - (b : Int) := by rw [IntKind.wrap_i64]; omega
          have HRS := Lib.hid (rowR_s (n := n) (c := c) (a := a) hb1)
          have hadj : adjB n a b = (decide (b = a + 1) || decide (a = b + 1) || (decide (a = 1) && decide (b = n)) || (decide (a = n) && decide (b = 1))) := rfl
          rw [hadj] at HRS
          clear hadj
          by_cases h1 : b = a + 1
          · have e1 : ((b : Int) - (a : Int) == 1) = true := by simp; omega
            have HE : Hid (rowR n c a b = rowR n c a (b - 1) ++ [⟨(a : Int), (b : Int), c, 0⟩]) := Lib.hid (by rw [HRS.out]; simp [h1])
            clear h1
            clear HRS
            have y1 := hg.out.cells'.2.1
            have SH : Hid (z + 1 ≤ wr.heap.size) := Lib.hid (Nat.le_of_lt (Array.getElem?_eq_some_iff.1 hg.out.hh).1)
            have HLL : Hid ((lsRp n c (a - 1) ++ rowR n c a (b - 1)).length ≤ 1172812402926) := Lib.hid (by rw [List.length_append]; have := lsRp_len n c (a - 1); have := rowR_len n c a (b - 1); have : (a - 1) * n ≤ 128 * 128 := Nat.mul_le_mul (by omega) hn; omega)
            go_wp2_with (at_builtin; refine wpList_appLk rfl (.tmp 55) (.tmp 60) rfl (z + 1) _ vb (lsRp n c (a - 1) ++ rowR n c a (b - 1)) ⟨(a : Int), (b : Int), c, 0⟩ rfl rfl (own_below hg.out.la ((Below.refl _ _).alloc (Nat.le_refl _) _)) (heap_at rfl) HLL.out (alloc_le2 SH.out) ?_; intro v5 w5 ho5 hg5; obtain ⟨G1, y5, f5, b5, A5, c5, hv5⟩ := appLk' hg.out hg5 ho5; rw [List.length_append] at hv5; subst hv5; have G5 := Lib.hid G1; have B5 := Lib.hid (b5 _ hbw.out); clear G1 b5 ho5 hg5)
            rw [List.append_assoc, ← HE.out] at G5
            go_roundw
            case rel => exact ⟨b + 1, _, by omega, by omega, by go_num, by rw [Nat.add_sub_cancel]; exact G5, B5⟩
            case measure => simp [intOf]; omega
          · have e1 : ((b : Int) - (a : Int) == 1) = false := by simp; omega
            by_cases h2 : a = b + 1
            · have e2 : ((a : Int) - (b : Int) == 1) = true := by simp; omega
              have HE : Hid (rowR n c a b = rowR n c a (b - 1) ++ [⟨(a : Int), (b : Int), c, 0⟩]) := Lib.hid (by rw [HRS.out]; simp [h2])
              clear h2
              clear HRS
              have y1 := hg.out.cells'.2.1
              have SH : Hid (z + 1 ≤ wr.heap.size) := Lib.hid (Nat.le_of_lt (Array.getElem?_eq_some_iff.1 hg.out.hh).1)
              have HLL : Hid ((lsRp n c (a - 1) ++ rowR n c a (b - 1)).length ≤ 1172812402926) := Lib.hid (by rw [List.length_append]; have := lsRp_len n c (a - 1); have := rowR_len n c a (b - 1); have : (a - 1) * n ≤ 128 * 128 := Nat.mul_le_mul (by omega) hn; omega)
              go_wp2_with (at_builtin; refine wpList_appLk rfl (.tmp 55) (.tmp 60) rfl (z + 1) _ vb (lsRp n c (a - 1) ++ rowR n c a (b - 1)) ⟨(a : Int), (b : Int), c, 0⟩ rfl rfl (own_below hg.out.la ((Below.refl _ _).alloc (Nat.le_refl _) _)) (heap_at rfl) HLL.out (alloc_le2 SH.out) ?_; intro v5 w5 ho5 hg5; obtain ⟨G1, y5, f5, b5, A5, c5, hv5⟩ := appLk' hg.out hg5 ho5; rw [List.length_append] at hv5; subst hv5; have G5 := Lib.hid G1; have B5 := Lib.hid (b5 _ hbw.out); clear G1 b5 ho5 hg5)
              rw [List.append_assoc, ← HE.out] at G5
              go_roundw
              case rel => exact ⟨b + 1, _, by omega, by omega, by go_num, by rw [Nat.add_sub_cancel]; exact G5, B5⟩
              case measure => simp [intOf]; omega
            · have e2 : ((a : Int) - (b : Int) == 1) = false := by simp; omega
              by_cases h3 : a = 1
              · have e3 : ((a : Int) == 1) = true := by simp; omega
                by_cases h4 : b = n
                · have e4 : ((b : Int) == (n : Int)) = true := by simp; omega
                  have HE : Hid (rowR n c a b = rowR n c a (b - 1) ++ [⟨(a : Int), (b : Int), c, 0⟩]) := Lib.hid (by rw [HRS.out]; simp [h3, h4])
                  clear h3 h4
                  clear HRS
                  have y1 := hg.out.cells'.2.1
                  have SH : Hid (z + 1 ≤ wr.heap.size) := Lib.hid (Nat.le_of_lt (Array.getElem?_eq_some_iff.1 hg.out.hh).1)
                  have HLL : Hid ((lsRp n c (a - 1) ++ rowR n c a (b - 1)).length ≤ 1172812402926) := Lib.hid (by rw [List.length_append]; have := lsRp_len n c (a - 1); have := rowR_len n c a (b - 1); have : (a - 1) * n ≤ 128 * 128 := Nat.mul_le_mul (by omega) hn; omega)
                  go_wp2_with (at_builtin; refine wpList_appLk rfl (.tmp 55) (.tmp 60) rfl (z + 1) _ vb (lsRp n c (a - 1) ++ rowR n c a (b - 1)) ⟨(a : Int), (b : Int), c, 0⟩ rfl rfl (own_below hg.out.la ((Below.refl _ _).alloc (Nat.le_refl _) _)) (heap_at rfl) HLL.out (alloc_le2 SH.out) ?_; intro v5 w5 ho5 hg5; obtain ⟨G1, y5, f5, b5, A5, c5, hv5⟩ := appLk' hg.out hg5 ho5; rw [List.length_append] at hv5; subst hv5; have G5 := Lib.hid G1; have B5 := Lib.hid (b5 _ hbw.out); clear G1 b5 ho5 hg5)
                  rw [List.append_assoc, ← HE.out] at G5
                  go_roundw
                  case rel => exact ⟨b + 1, _, by omega, by omega, by go_num, by rw [Nat.add_sub_cancel]; exact G5, B5⟩
                  case measure => simp [intOf]; omega
                · have e4 : ((b : Int) == (n : Int)) = false := by simp; omega
                  have e5 : ((1 : Int) == (n : Int)) = false := by simp; omega
                  have e6 : ((a : Int) == (n : Int)) = false := by simp; omega
                  have HE : Hid (rowR n c a b = rowR n c a (b - 1)) := Lib.hid (by rw [HRS.out]; simp [h1, h2, h4, show ¬ (a = n) from by omega])
                  clear h3
                  clear HRS
                  go_wp2_with fail
                  rw [← HE.out] at hg
                  go_roundw
                  case rel => exact ⟨b + 1, _, by omega, by omega, by go_num, by rw [Nat.add_sub_cancel]; exact hg, hbw⟩
                  case measure => simp [intOf]; omega
              · have e3 : ((a : Int) == 1) = false := by simp; omega
                by_cases h4 : a = n
                · have e4 : ((a : Int) == (n : Int)) = true := by simp; omega
                  by_cases h5 : b = 1
                  · have e5 : ((b : Int) == 1) = true := by simp; omega
                    have HE : Hid (rowR n c a b = rowR n c a (b - 1) ++ [⟨(a : Int), (b : Int), c, 0⟩]) := Lib.hid (by rw [HRS.out]; simp [h4, h5])
                    clear h4 h5
                    clear HRS
                    have y1 := hg.out.cells'.2.1
                    have SH : Hid (z + 1 ≤ wr.heap.size) := Lib.hid (Nat.le_of_lt (Array.getElem?_eq_some_iff.1 hg.out.hh).1)
                    have HLL : Hid ((lsRp n c (a - 1) ++ rowR n c a (b - 1)).length ≤ 1172812402926) := Lib.hid (by rw [List.length_append]; have := lsRp_len n c (a - 1); have := rowR_len n c a (b - 1); have : (a - 1) * n ≤ 128 * 128 := Nat.mul_le_mul (by omega) hn; omega)
                    go_wp2_with (at_builtin; refine wpList_appLk rfl (.tmp 55) (.tmp 60) rfl (z + 1) _ vb (lsRp n c (a - 1) ++ rowR n c a (b - 1)) ⟨(a : Int), (b : Int), c, 0⟩ rfl rfl (own_below hg.out.la ((Below.refl _ _).alloc (Nat.le_refl _) _)) (heap_at rfl) HLL.out (alloc_le2 SH.out) ?_; intro v5 w5 ho5 hg5; obtain ⟨G1, y5, f5, b5, A5, c5, hv5⟩ := appLk' hg.out hg5 ho5; rw [List.length_append] at hv5; subst hv5; have G5 := Lib.hid G1; have B5 := Lib.hid (b5 _ hbw.out); clear G1 b5 ho5 hg5)
                    rw [List.append_assoc, ← HE.out] at G5
                    go_roundw
                    case rel => exact ⟨b + 1, _, by omega, by omega, by go_num, by rw [Nat.add_sub_cancel]; exact G5, B5⟩
                    case measure => simp [intOf]; omega
                  · have e5 : ((b : Int) == 1) = false := by simp; omega
                    have HE : Hid (rowR n c a b = rowR n c a (b - 1)) := Lib.hid (by rw [HRS.out]; simp [h1, h2, h3, h5])
                    clear h4
                    clear HRS
                    go_wp2_with fail
                    rw [← HE.out] at hg
                    go_roundw
                    case rel => exact ⟨b + 1, _, by omega, by omega, by go_num, by rw [Nat.add_sub_cancel]; exact hg, hbw⟩
                    case measure => simp [intOf]; omega
                · have e4 : ((a : Int) == (n : Int)) = false := by simp; omega
                  have HE : Hid (rowR n c a b = rowR n c a (b - 1)) := Lib.hid (by rw [HRS.out]; simp [h1, h2, h3, h4])
                  clear HRS
                  go_wp2_with fail
                  rw [← HE.out] at hg
                  go_roundw
                  case rel => exact ⟨b + 1, _, by omega, by omega, by go_num, by rw [Nat.add_sub_cancel]; exact hg, hbw⟩
                  case measure => simp [intOf]; omega
        · have hbn2 : b = n + 1 := by omega
          have hbf : ¬ ((b : Int) ≤ (n : Int)) := by omega
          have G7 : Hid (GS (z + 1) wr (z + 1) va2 vb (.slice none 0 0) (nsR (a + 1 - 1)) (lsRp n c (a + 1 - 1)) []) := Lib.hid (by
            have h := hg.out
            rw [hbn2, Nat.add_sub_cancel, ← lsRp_s ha1] at h
            rw [Nat.add_sub_cancel]
            exact h)
          clear hbn2
          go_wp2_with fail
          go_roundw
          case rel => exact ⟨a + 1, _, _, by omega, by omega, by go_num, G7, hbw⟩
          case measure => simp [intOf]; omega
    · have han : a = n + 1 := by omega
      have haf : ¬ ((a : Int) ≤ (n : Int)) := by omega
      have GF : Hid (GS (z + 1) wr (z + 1) va vb (.slice none 0 0) (nsR n) (lsR n c) []) := Lib.hid (by
        have h := hg.out
        rw [han, Nat.add_sub_cancel] at h
        exact h)
      have KF := Lib.hid ((hbw.out.block z (by omega)).trans K2.out)
      have BF : Hid (Below z w wr) := Lib.hid (B2.out.trans (hbw.out.mono (by omega)))
      clear han hg y0
      have own1 : ∀ (vv : Value), vv = va → vv.oneCell' = true := fun vv hv => by
        obtain ⟨A, cc, hh⟩ := own_small GF.out.na
        rw [hv, hh]; rfl
      have own2 : ∀ (vv : Value), vv = vb → vv.oneCell' = true := fun vv hv => by
        obtain ⟨A, cc, hh⟩ := own_small GF.out.la
        rw [hv, hh]; rfl
      have O1 := Lib.hid (own1 va rfl)
      have O2 := Lib.hid (own2 vb rfl)
      clear own1 own2
      go_wp2_with (first | (refine wpList_loadL rfl 33 (.tmp 5) rfl (z + 1) 0 (.agg #[va, vb, .slice none 0 0]) rfl (run_loadL (cs := [va, vb, .slice none 0 0]) isAgg33 size33 rfl (AtL_heap GF.out.hh)) ?_) | (refine wpList_storeN rfl 33 (.tmp 4) (.tmp 63) rfl rfl z #[va, vb, .slice none 0 0] rfl rfl 33 _ KF.out info33s rfl (by simp [Value.oneCell']; exact ⟨O1.out, O2.out⟩) ?_; intro w9 hz9 hb9 hn9 hs9; have Z9 := Lib.hid hz9; have D9 := Lib.hid (BF.out.trans (hb9 _ (Nat.le_refl _))); have G9 : Hid (w9.ownsRow z 41 3 va n ((nsR n).flatMap cNd) ∧ w9.ownsRow z 43 4 vb (lsR n c).length ((lsR n c).flatMap cLk)) := Lib.hid (keep2 hn9 hs9 GF.out (hb9 0 (Nat.zero_le _))); clear hz9 hb9 hn9 hs9))
      refine bodyPost_ret (results_cell1' rfl rfl (run_loadL (cs := [va, vb, .slice none 0 0]) isAgg33 size33 rfl (AtL_heap Z9.out))) rfl ?_
      have hz := HZ.out
      subst hz
      exact ⟨⟨va, vb, _, rfl, G9.out.1, G9.out.2, rfl⟩, D9.out⟩

end Go.Proofs.Ytpklcefiabjplaa
