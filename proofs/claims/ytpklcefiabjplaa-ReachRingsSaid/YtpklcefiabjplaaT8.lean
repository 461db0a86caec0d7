/- The reference: Pars; conditions as stated. -/
import Derived.Test.YtpklcefiabjplaaT7
namespace Go.Proofs.Ytpklcefiabjplaa
open Go.ChangeShapes Go.WideShapes Go.ChangeAt Go.RowKit
set_option linter.unusedVariables false
set_option linter.unusedSimpArgs false
attribute [local go_sem] Og.Opt Og.OpY

attribute [local go_sem] Og.Opt Og.OpY gd_same gd_ne ge_same ge_ne
theorem flatM_at (Ms : List Nat) (k j : Nat) (hj : j < 2) : (Ms.flatMap cM)[k * 2 + j]? = (Ms[k]?).bind fun M => (cM M)[j]? := by
  have := flat_get cM 2 cM_len (by omega) Ms (k * 2 + j)
  rw [this, show (k * 2 + j) / 2 = k by omega, show (k * 2 + j) % 2 = j by omega]
/-- does the link make its tail a parent of v? -/
def parB (ds : List Int) (root v : Nat) (l : Lk) : Bool :=
  decide (l.t = (v : Int)) && decide (v ≠ root) && decide (ds.getD v 0 < 1073741824) && decide (ds.getD l.f.toNat 0 < 1073741824) && decide (wrap64 (ds.getD l.f.toNat 0 + l.c) = ds.getD v 0)
def parL (ds : List Int) (root : Nat) (ls : List Lk) (v : Nat) : List Nat := (ls.filter (parB ds root v)).map (·.f.toNat)
def parsR (ds : List Int) (root : Nat) (ls : List Lk) (k : Nat) : List Nat := (List.range k).map fun v => ofM (parL ds root ls v)
theorem parL_take {ds : List Int} {root v k : Nat} {ls : List Lk} {l : Lk} (h : ls[k]? = some l) : parL ds root (ls.take (k + 1)) v = parL ds root (ls.take k) v ++ (if parB ds root v l = true then [l.f.toNat] else []) := by
  unfold parL
  rw [List.take_add_one, h, List.filter_append, List.map_append]
  congr 1
  cases hp : parB ds root v l <;> simp [hp]
theorem parL_len (ds : List Int) (root v : Nat) (ls : List Lk) : (parL ds root ls v).length ≤ ls.length := by
  unfold parL
  rw [List.length_map]
  exact List.length_filter_le ..
theorem parsR_s (ds : List Int) (root : Nat) (ls : List Lk) (k : Nat) : parsR ds root ls (k + 1) = parsR ds root ls k ++ [ofM (parL ds root ls k)] := by
  unfold parsR
  rw [List.range_succ, List.map_append]
  rfl
theorem parsR_l (ds : List Int) (root : Nat) (ls : List Lk) (k : Nat) : (parsR ds root ls k).length = k := by simp [parsR]
set_option maxRecDepth 100000 in
set_option maxHeartbeats 32000000 in
theorem rPars_ok (root : Nat) (ds : List Int) (vd : Value) (ns : List Nd) (ls : List Lk) (va vb vc : Value) (w : World) (g : GX w va vb vc ns ls) (hroot : root < 128) (hs : Sl cI 1 0 w vd ds) (hd : ds.length = 128) :
    Calls Try.prog 57 #[.agg #[va, vb, vc], .int .i64 root, vd] w fun e w' => (∃ v, e = .returned v ∧ w'.ownsRow w.heap.size 25 2 v 128 ((parsR ds root ls 128).flatMap cM)) ∧ Below w.heap.size w w' := by
  have HOV := Lib.hid (fun w2 (hb : Below w.heap.size w w2) (a : Int) => rOver_ok ns ls va vb vc a w2 (g.sa.below hb) (by have := g.len; omega))
  have HLS : Hid (∀ l ∈ ls, oks l.f = true ∧ oks l.t = true) := Lib.hid fun l hm => by
    obtain ⟨i, hi⟩ := List.mem_iff_getElem?.1 hm
    obtain ⟨h1, h2, -⟩ := g.snd.lr i l hi
    have a1 := rng_of (g.snd.at h1)
    have a2 := rng_of (g.snd.at h2)
    simp only [oks, Bool.and_eq_true, decide_eq_true_eq]
    omega
  have hl2 := g.snd.ll
  obtain ⟨A2, c2, rfl, r2, -⟩ := g.sb
  obtain ⟨A3, c3, rfl, r3, -⟩ := hs
  obtain ⟨n2, hn2⟩ : ∃ n, n = ls.length := ⟨_, rfl⟩
  rw [← hn2] at hl2 HOV ⊢
  rw [hd]
  have N2 := Lib.hid hn2
  have R2 := Lib.hid r2
  obtain ⟨gd, od, rfl⟩ : ∃ gd od, A3 = some ⟨gd, od, none⟩ := by
    obtain ⟨x, hx⟩ : ∃ x, ds[0]? = some x := ⟨_, List.getElem?_eq_getElem (by omega)⟩
    obtain ⟨b, o, rfl, -⟩ := r3 0 x hx
    exact ⟨b, o, rfl⟩
  have HD : Hid (∀ k, k < 128 → w.cell? ⟨gd, od + k, none⟩ = some (.int .i64 (ds.getD k 0))) := Lib.hid fun k hk => by
    obtain ⟨b, o, hA, hat⟩ := r3 k _ (getD_some (by rw [hd]; exact hk))
    injection hA with hA
    injection hA with hb ho _
    subst hb ho
    have := hat 0 _ rfl
    rwa [Nat.add_zero, Nat.mul_one] at this
  obtain ⟨z, hz⟩ : ∃ z, z = w.heap.size := ⟨_, rfl⟩
  have b1 : Below w.heap.size w (w.alloc (.cells #[va, .slice A2 n2 c2, vc] 33)) := (Below.refl _ _).alloc (Nat.le_refl _) _
  have k1 : (w.alloc (.cells #[va, .slice A2 n2 c2, vc] 33)).heap[z]? = some (.cells #[va, .slice A2 n2 c2, vc] 33 (0, 0)) := heap_at hz
  have s1 : (w.alloc (.cells #[va, .slice A2 n2 c2, vc] 33)).heap.size = z + 1 := by rw [hz]; simp
  clear hn2 r2 r3 g hd
  go_enter Try.func57, Try.ntmps57
  go_wp2_with fail
  rw [← hz]
  generalize (w.alloc (.cells #[va, .slice A2 n2 c2, vc] 33)) = wa at *
  have HZ := Lib.hid hz
  have o1 : (wa.alloc (.cells #[] 25)).ownsRow (z + 1) 25 2 (.slice (some ⟨z + 1, 0, none⟩) 0 0) 0 [] := by have := fresh_row wa 25 2 (z + 1) (by omega); rw [s1] at this; exact this
  have b2 : Below wa.heap.size wa (wa.alloc (.cells #[] 25)) := (Below.refl _ _).alloc (Nat.le_refl _) _
  have BC := Lib.hid (bthen b1 b2)
  have KC := Lib.hid (heap_keep b2 k1)
  have SC : Hid (z + 1 ≤ (wa.alloc (.cells #[] 25)).heap.size) := Lib.hid (by simp; omega)
  have O1 := Lib.hid o1
  generalize (wa.alloc (.cells #[] 25)) = wc at *
  clear b1 k1 s1 hz o1 b2
  go_loopw [7, 8] (fun u1 i wr => ∃ (k : Nat) (v1 : Value), k ≤ 128 ∧ v1 = u1 ∧ i = .int .i64 k ∧ Hid (wr.ownsRow (z + 1) 25 2 v1 (parsR ds root ls k).length ((parsR ds root ls k).flatMap cM)) ∧ Hid (Below (z + 1) wc wr)) (fun _ i _ => 128 - (intOf i).toNat)
  case atStart => exact ⟨0, _, Nat.zero_le _, rfl, rfl, O1, Lib.hid (Below.refl _ _)⟩
  case round =>
    clear O1
    obtain ⟨v, v1, hv, rfl, rfl, hO, hB⟩ := hrel
    by_cases hlt : v < 128
    · have hwk1 : IntKind.i64.wrap ((v : Int) + 1) = (v : Int) + 1 := by rw [IntKind.wrap_i64]; omega
      have hv7 : (v : Int) ≤ 127 := by omega
      have hv0 : (0 : Int) ≤ (v : Int) := by omega
      have hv8 : (v : Int) < 128 := by omega
      have SR := Lib.hid (Nat.le_trans SC.out hB.out.size)
      obtain ⟨ow, how⟩ : ∃ ow : World, ow = wr := ⟨_, rfl⟩
      subst how
      have V8 := Lib.hid hlt
      go_wp2_with fail
      have oL := fresh_row ow 3 1 (z + 1) SR.out
      have OL := Lib.hid oL
      have OO := Lib.hid (hO.out.alloc (.cells #[] 3))
      have OB := Lib.hid (hB.out.alloc SR.out (.cells #[] 3))
      generalize hgl : ow.alloc (.cells #[] 3) = ox at *
      obtain ⟨zl, hzl⟩ : ∃ zl, zl = ow.heap.size := ⟨_, rfl⟩
      rw [← hzl] at OL oL
      rw [← hzl]
      have B0 := Lib.hid hB.out
      clear hgl oL hzl hO hlt hB
      go_loopw [9, 10] (fun u2 i wr => ∃ (k : Nat) (v2 : Value), k ≤ n2 ∧ v2 = u2 ∧ i = .int .i64 k ∧ Hid (wr.ownsRow (z + 1) 3 1 v2 (parL ds root (ls.take k) v).length ((parL ds root (ls.take k) v).flatMap cN)) ∧ Hid (wr.ownsRow (z + 1) 25 2 v1 (parsR ds root ls v).length ((parsR ds root ls v).flatMap cM)) ∧ Hid (Below (z + 1) wc wr)) (fun _ i _ => n2 - (intOf i).toNat)
      case atStart => exact ⟨0, _, Nat.zero_le _, rfl, rfl, OL, OO, OB⟩
      case round =>
        clear OL OO OB B0 SR
        obtain ⟨k, v2, hk, rfl, rfl, hL, hO, hB⟩ := hrel
        have KR := Lib.hid ((hB.out.block z (by omega)).trans KC.out)
        have SR := Lib.hid (Nat.le_trans SC.out hB.out.size)
        by_cases hlk : k < n2
        · have hvk1 : IntKind.i64.wrap ((k : Int) + 1) = (k : Int) + 1 := by rw [IntKind.wrap_i64]; omega
          have hk0 : (0 : Int) ≤ (k : Int) := by omega
          have hkm : (k : Int) < (n2 : Int) := by omega
          obtain ⟨l, hl⟩ : ∃ r, ls[k]? = some r := ⟨_, List.getElem?_eq_getElem (by rw [← N2.out]; exact hlk)⟩
          obtain ⟨b0, o0, rfl, hat⟩ := R2.out k l hl
          have r1 := Lib.hid (run_loadL isAgg43 size43 (cLk_len l) (hat.below (BC.out.trans (hB.out.mono (by rw [HZ.out]; omega)))))
          obtain ⟨hof, hot⟩ := HLS.out l (List.mem_of_getElem? hl)
          have HTK := Lib.hid (parL_take (ds := ds) (root := root) (v := v) hl)
          obtain ⟨f, t, c, dl⟩ := l
          obtain ⟨fn, hfn⟩ : ∃ m : Nat, f = (m : Int) := ⟨f.toNat, by simp only [oks, Bool.and_eq_true, decide_eq_true_eq] at hof; omega⟩
          obtain ⟨tn, htn⟩ : ∃ m : Nat, t = (m : Int) := ⟨t.toNat, by simp only [oks, Bool.and_eq_true, decide_eq_true_eq] at hot; omega⟩
          subst hfn htn
          have hf8 : fn < 128 := by simp only [oks, Bool.and_eq_true, decide_eq_true_eq] at hof; omega
          have hf0 : (0 : Int) ≤ (fn : Int) := by omega
          have hf1 : (fn : Int) < 128 := by omega
          obtain ⟨x, hx⟩ : ∃ x, x = ds.getD fn 0 := ⟨_, rfl⟩
          obtain ⟨y, hy⟩ : ∃ y, y = ds.getD v 0 := ⟨_, rfl⟩
          have q1 : wr.cell? ⟨z, 1, none⟩ = some (.slice (some ⟨b0, o0, none⟩) n2 c2) := by rw [cell_of_row _ _ 1 _ _ _ KR.out]; rfl
          have qx : Hid (wr.cell? ⟨gd, od + fn, none⟩ = some (.int .i64 x)) := Lib.hid (by rw [hx]; exact bcell (BC.out.trans (hB.out.mono (by rw [HZ.out]; omega))) (HD.out fn hf8))
          have qy : Hid (wr.cell? ⟨gd, od + v, none⟩ = some (.int .i64 y)) := Lib.hid (by rw [hy]; exact bcell (BC.out.trans (hB.out.mono (by rw [HZ.out]; omega))) (HD.out v V8.out))
          have HP : Hid (parB ds root v ⟨(fn : Int), (tn : Int), c, dl⟩ = (decide (tn = v) && decide (v ≠ root) && decide (y < 1073741824) && decide (x < 1073741824) && decide (wrap64 (x + c) = y))) := Lib.hid (by
            unfold parB
            simp only [Int.toNat_natCast, ← hx, ← hy]
            congr 4
            exact decide_eq_decide.2 (by omega))
          have HLL : Hid ((parL ds root (ls.take k) v).length ≤ 1172812402926) := Lib.hid (Nat.le_trans (parL_len ..) (by rw [List.length_take]; omega))
          clear hl hat hof hot hx hy hf8
          go_wp2_with (first | (refine wpList_loadL rfl 43 (.tmp 30) rfl b0 (o0 + k * 4) (.agg #[.int .i64 fn, .int .i64 tn, .int .i64 c, .int .i64 dl]) rfl r1.out ?_) | (refine wpList_storeN rfl 43 (.tmp 11) (.tmp 31) rfl rfl wr.heap.size #[.int .i64 fn, .int .i64 tn, .int .i64 c, .int .i64 dl] rfl rfl 43 _ (heap_at rfl) info43s rfl (by simp [Value.oneCell']) ?_; intro w3 hz3 hb3 hn3 hs3; have b3 := below_storeA hb3; have ZL := Lib.hid hz3; have O3 := Lib.hid (own_below hO.out b3); have L3 := Lib.hid (own_below hL.out b3); have B3 := Lib.hid (hB.out.trans (below_low b3 SC.out hB.out)); have qx3 := Lib.hid (bcell b3 qx.out); have qy3 := Lib.hid (bcell b3 qy.out); clear hz3 hb3 hn3 hs3 b3))
          obtain ⟨gz, hgz⟩ : ∃ gz, gz = wr.heap.size := ⟨_, rfl⟩
          rw [← hgz] at ZL
          rw [← hgz]
          clear hgz q1 r1 hO hL hB KR SR qx qy
          have HC : ∀ w2, Below w3.heap.size w3 w2 → w2.cell? ⟨gz, 0, none⟩ = some (.int .i64 fn) ∧ w2.cell? ⟨gz, 1, none⟩ = some (.int .i64 tn) ∧ w2.cell? ⟨gz, 2, none⟩ = some (.int .i64 c) ∧ w2.cell? ⟨gd, od + fn, none⟩ = some (.int .i64 x) ∧ w2.cell? ⟨gd, od + v, none⟩ = some (.int .i64 y) ∧ w2.cell? ⟨z, 0, none⟩ = some va ∧ w2.cell? ⟨z, 1, none⟩ = some (.slice (some ⟨b0, o0, none⟩) n2 c2) ∧ w2.cell? ⟨z, 2, none⟩ = some vc := fun w5 h5 => ⟨bcell h5 (by rw [cell_of_row _ _ 0 _ _ _ ZL.out]; rfl), bcell h5 (by rw [cell_of_row _ _ 1 _ _ _ ZL.out]; rfl), bcell h5 (by rw [cell_of_row _ _ 2 _ _ _ ZL.out]; rfl), bcell h5 qx3.out, bcell h5 qy3.out, bcell h5 (by rw [cell_of_row _ _ 0 _ _ _ ((B3.out.block z (by omega)).trans KC.out)]; rfl), bcell h5 (by rw [cell_of_row _ _ 1 _ _ _ ((B3.out.block z (by omega)).trans KC.out)]; rfl), bcell h5 (by rw [cell_of_row _ _ 2 _ _ _ ((B3.out.block z (by omega)).trans KC.out)]; rfl)⟩
          have HO2 : Hid (∀ w2, Below w3.heap.size w3 w2 → Calls Try.prog 30 #[.agg #[va, .slice (some ⟨b0, o0, none⟩) n2 c2, vc], .int .i64 fn] w2 fun e w' => e = .returned (.bool false) ∧ Below w2.heap.size w2 w') := Lib.hid (fun w2 hb => HOV.out w2 (bthen (BC.out.trans (B3.out.mono (by rw [HZ.out]; omega))) hb) fn)
          have S3 := Lib.hid (Nat.le_trans SC.out B3.out.size)
          clear ZL qx3 qy3 SC HOV
          by_cases h1 : tn = v
          · have e1 : ((tn : Int) = (v : Int)) = True := eq_true (by omega)
            by_cases h2 : v = root
            · have e2 : ((v : Int) != (root : Int)) = false := by simp; omega
              have HE : Hid (parL ds root (ls.take (k + 1)) v = parL ds root (ls.take k) v) := Lib.hid (by rw [HTK.out, HP.out]; simp [h2])
              clear HTK HP
              refine abs_act fun a0 ha0 => ?_
              have es : a0.tmps.size = 99 := by rw [ha0]; rfl
              have e1 : a0.tmps.getD 1 undef = .int .i64 root := by rw [ha0]; rfl
              have f1 : ∀ h : 1 < a0.tmps.size, a0.tmps[1] = .int .i64 root := by subst ha0; exact fun _ => rfl
              have e2 : a0.tmps.getD 2 undef = .slice (some ⟨gd, od, none⟩) 128 c3 := by rw [ha0]; rfl
              have f2 : ∀ h : 2 < a0.tmps.size, a0.tmps[2] = .slice (some ⟨gd, od, none⟩) 128 c3 := by subst ha0; exact fun _ => rfl
              have e3 : a0.tmps.getD 3 undef = .pointer (some ⟨z, 0, none⟩) := by rw [ha0]; rfl
              have f3 : ∀ h : 3 < a0.tmps.size, a0.tmps[3] = .pointer (some ⟨z, 0, none⟩) := by subst ha0; exact fun _ => rfl
              have e8 : a0.tmps.getD 8 undef = .int .i64 v := by rw [ha0]; rfl
              have f8 : ∀ h : 8 < a0.tmps.size, a0.tmps[8] = .int .i64 v := by subst ha0; exact fun _ => rfl
              have e11 : a0.tmps.getD 11 undef = .pointer (some ⟨gz, 0, none⟩) := by rw [ha0]; rfl
              have f11 : ∀ h : 11 < a0.tmps.size, a0.tmps[11] = .pointer (some ⟨gz, 0, none⟩) := by subst ha0; exact fun _ => rfl
              have HA0 := Lib.hid ha0
              clear ha0
              refine Og.walk_lit [[],[0],[],[1,2,0],[3,1,2,0],[4,3,1,2,0],[4,3,1,2,0],[5,6,4,3,1,2,0],[4,7,3,1,2,0,5,6],[8,4,7,3,1,2,0,5,6],[9,8,4,7,3,1,2,0,5,6],[9,8,4,7,3,1,2,0,5,6],[10,11,9,8,4,7,3,1,2,0,5,6],[12,9,10,11,8,4,7,3,1,2,0,5,6],[13,9,12,10,11,8,4,7,3,1,2,0,5,6],[9,14,8,4,7,3,1,2,0,5,6,13,12,10,11],[15,9,14,8,4,7,3,1,2,0,5,6,13,12,10,11],[16,15,9,14,8,4,7,3,1,2,0,5,6,13,12,10,11],[16,15,9,14,8,4,7,3,1,2,0,5,6,13,12,10,11],[18,16,15,9,14,8,4,7,3,1,2,0,5,6,13,12,10,11],[17,19,16,15,9,14,8,4,7,3,1,2,0,5,6,13,12,10,11,18],[20,16,17,19,15,9,14,8,4,7,3,1,2,0,5,6,13,12,10,11,18],[21,16,20,17,19,15,9,14,8,4,7,3,1,2,0,5,6,13,12,10,11,18],[16,22,15,9,14,8,4,7,3,1,2,0,5,6,13,12,10,11,21,20,17,19,18],[23,16,22,15,9,14,8,4,7,3,1,2,0,5,6,13,12,10,11,21,20,17,19,18],[24,23,16,22,15,9,14,8,4,7,3,1,2,0,5,6,13,12,10,11,21,20,17,19,18],[24,23,16,22,15,9,14,8,4,7,3,1,2,0,5,6,13,12,10,11,21,20,17,19,18],[26,24,23,16,22,15,9,14,8,4,7,3,1,2,0,5,6,13,12,10,11,21,20,17,19,18],[25,27,24,23,16,22,15,9,14,8,4,7,3,1,2,0,5,6,13,12,10,11,21,20,17,19,18,26],[28,24,25,27,23,16,22,15,9,14,8,4,7,3,1,2,0,5,6,13,12,10,11,21,20,17,19,18,26],[24,23,16,22,15,9,14,8,4,7,3,1,2,0,5,6,13,12,10,11,21,20,17,19,18],[30,24,23,16,22,15,9,14,8,4,7,3,1,2,0,5,6,13,12,10,11,21,20,17,19,18],[29,31,24,28,25,27,23,16,22,15,9,14,8,4,7,3,1,2,0,5,6,13,12,10,11,21,20,17,19,18,26,30],[24,23,16,22,15,9,14,8,4,7,3,1,2,0,5,6,13,12,10,11,21,20,17,19,18],[24,23,16,22,15,9,14,8,4,7,3,1,2,0,5,6,13,12,10,11,21,20,17,19,18],[33,34,24,23,16,22,15,9,14,8,4,7,3,1,2,0,5,6,13,12,10,11,21,20,17,19,18],[35,24,33,34,23,16,22,15,9,14,8,4,7,3,1,2,0,5,6,13,12,10,11,21,20,17,19,18],[32,36,24,29,31,28,25,27,23,16,22,15,9,14,8,4,7,3,1,2,0,5,6,13,12,10,11,21,20,17,19,18,26,30,35,33,34],[24,37,23,16,22,15,9,14,8,4,7,3,1,2,0,5,6,13,12,10,11,21,20,17,19,18,32,36,29,31,28,25,27,26,30,35,33,34],[38,24,37,23,16,22,15,9,14,8,4,7,3,1,2,0,5,6,13,12,10,11,21,20,17,19,18,32,36,29,31,28,25,27,26,30,35,33,34],[39,38,24,37,23,16,22,15,9,14,8,4,7,3,1,2,0,5,6,13,12,10,11,21,20,17,19,18,32,36,29,31,28,25,27,26,30,35,33,34],[40,39,38,24,37,23,16,22,15,9,14,8,4,7,3,1,2,0,5,6,13,12,10,11,21,20,17,19,18,32,36,29,31,28,25,27,26,30,35,33,34],[39,38,24,37,23,16,22,15,9,14,8,4,7,3,1,2,0,5,6,13,12,10,11,21,20,17,19,18,32,36,29,31,28,25,27,26,30,35,33,34],[41,42,39,40,38,24,37,23,16,22,15,9,14,8,4,7,3,1,2,0,5,6,13,12,10,11,21,20,17,19,18,32,36,29,31,28,25,27,26,30,35,33,34],[43,39,41,42,40,38,24,37,23,16,22,15,9,14,8,4,7,3,1,2,0,5,6,13,12,10,11,21,20,17,19,18,32,36,29,31,28,25,27,26,30,35,33,34],[44,43,39,41,42,40,38,24,37,23,16,22,15,9,14,8,4,7,3,1,2,0,5,6,13,12,10,11,21,20,17,19,18,32,36,29,31,28,25,27,26,30,35,33,34],[44,43,39,41,42,40,38,24,37,23,16,22,15,9,14,8,4,7,3,1,2,0,5,6,13,12,10,11,21,20,17,19,18,32,36,29,31,28,25,27,26,30,35,33,34],[46,44,43,39,41,42,40,38,24,37,23,16,22,15,9,14,8,4,7,3,1,2,0,5,6,13,12,10,11,21,20,17,19,18,32,36,29,31,28,25,27,26,30,35,33,34],[45,47,44,43,39,41,42,40,38,24,37,23,16,22,15,9,14,8,4,7,3,1,2,0,5,6,13,12,10,11,21,20,17,19,18,32,36,29,31,28,25,27,26,30,35,33,34,46],[48,44,45,47,43,39,41,42,40,38,24,37,23,16,22,15,9,14,8,4,7,3,1,2,0,5,6,13,12,10,11,21,20,17,19,18,32,36,29,31,28,25,27,26,30,35,33,34,46],[44,49,39,43,41,42,40,38,24,37,23,16,22,15,9,14,8,4,7,3,1,2,0,5,6,13,12,10,11,21,20,17,19,18,32,36,29,31,28,25,27,26,30,35,33,34,48,45,47,46],[39,50,38,24,37,23,16,22,15,9,14,8,4,7,3,1,2,0,5,6,13,12,10,11,21,20,17,19,18,32,36,29,31,28,25,27,26,30,35,33,34,44,49,43,41,42,40,48,45,47,46]] (fun w2 => Below w3.heap.size w3 w2) (fun w1 w2 => Below w1.heap.size w1 w2) (by kernel_rfl) (by kernel_rfl) (bdrew) ?_
              repeat (first | (refine Og.step_pure (fun _ => Below.refl _ _) ?_; apply Exists.intro; refine And.intro ?_ ?_; focus (intro vs w2 hC hk; have hm := HC w2 hC; revert hk; simp only [Og.KS, Og.K0, Og.Is, List.getD_cons_zero, List.getD_cons_succ, List.getD_nil, List.contains_cons, List.contains_nil, Nat.reduceAdd, Nat.reduceBEq, Bool.or_false, Bool.false_or, Bool.or_true, Bool.true_or, Bool.false_eq_true, false_implies, true_implies, true_and, and_true, forall_const]; intros; go_simp; rfl)) | (refine Og.step_one ?_; apply Exists.intro; refine And.intro ?_ ?_; focus (intro vs w2 hC hk; have hm := HC w2 hC; revert hk; simp only [Og.KS, Og.K0, Og.Is, List.getD_cons_zero, List.getD_cons_succ, List.getD_nil, List.contains_cons, List.contains_nil, Nat.reduceAdd, Nat.reduceBEq, Bool.or_false, Bool.false_or, Bool.or_true, Bool.true_or, Bool.false_eq_true, false_implies, true_implies, true_and, and_true, forall_const]; intros; go_simp; with_reducible refine (HO2.out _ hC).mono ?_; rintro e w3 ⟨rfl, hb⟩; exact Og.RetV.mk ⟨bthen hC hb, hb, rfl⟩)))
              intro vs w4 hC hk
              have hm := HC w4 hC
              simp only [Og.KS, Og.K0, Og.Is, List.getD_cons_zero, List.getD_cons_succ, List.getD_nil, List.contains_cons, List.contains_nil, Nat.reduceAdd, Nat.reduceBEq, Bool.or_false, Bool.false_or, Bool.or_true, Bool.true_or, Bool.false_eq_true, false_implies, true_implies, true_and, and_true, forall_const] at hk
              have ha0 := HA0.out
              subst ha0
              clear HA0 es e1 f1 e2 f2 e3 f3 e8 f8 e11 f11
              simp only [hk, Act.put, List.setIfInBounds_toArray, List.set_cons_zero, List.set_cons_succ]
              clear hk
              have b4 := hC
              have O4 := Lib.hid (own_below O3.out hC)
              have L4 := Lib.hid (own_below L3.out hC)
              have S4 := Lib.hid (Nat.le_trans S3.out hC.size)
              have B4 := Lib.hid (B3.out.trans (below_low hC S3.out (Below.refl _ _)))
              have q0 : w4.cell? ⟨gz, 0, none⟩ = some (.int .i64 fn) := hm.1
              clear hC HC hm b4 O3 L3 B3 S3 HO2
              go_wp2_with fail
              go_roundw
              case rel => exact ⟨k + 1, _, by omega, rfl, by go_num, by rw [HE.out]; exact L4, O4, B4⟩
              case measure => simp [intOf]; omega
            · have e2 : ((v : Int) != (root : Int)) = true := by simp; omega
              by_cases h3 : y < 1073741824
              · by_cases h4 : x < 1073741824
                · obtain ⟨s, hs⟩ : ∃ s, wrap64 (x + c) = s := ⟨_, rfl⟩
                  have hs2 : IntKind.i64.wrap (x + c) = s := by rw [← hs, IntKind.wrap_i64]; unfold wrap64; omega
                  rw [hs] at HP
                  by_cases h5 : s = y
                  · subst h5
                    have HE : Hid (parL ds root (ls.take (k + 1)) v = parL ds root (ls.take k) v ++ [fn]) := Lib.hid (by rw [HTK.out, HP.out]; simp [h1, h2, h3, h4])
                    clear HTK HP
                    by_cases h6 : fn = root
                    · subst h6
                      refine abs_act fun a0 ha0 => ?_
                      have es : a0.tmps.size = 99 := by rw [ha0]; rfl
                      have e1 : a0.tmps.getD 1 undef = .int .i64 fn := by rw [ha0]; rfl
                      have f1 : ∀ h : 1 < a0.tmps.size, a0.tmps[1] = .int .i64 fn := by subst ha0; exact fun _ => rfl
                      have e2 : a0.tmps.getD 2 undef = .slice (some ⟨gd, od, none⟩) 128 c3 := by rw [ha0]; rfl
                      have f2 : ∀ h : 2 < a0.tmps.size, a0.tmps[2] = .slice (some ⟨gd, od, none⟩) 128 c3 := by subst ha0; exact fun _ => rfl
                      have e3 : a0.tmps.getD 3 undef = .pointer (some ⟨z, 0, none⟩) := by rw [ha0]; rfl
                      have f3 : ∀ h : 3 < a0.tmps.size, a0.tmps[3] = .pointer (some ⟨z, 0, none⟩) := by subst ha0; exact fun _ => rfl
                      have e8 : a0.tmps.getD 8 undef = .int .i64 v := by rw [ha0]; rfl
                      have f8 : ∀ h : 8 < a0.tmps.size, a0.tmps[8] = .int .i64 v := by subst ha0; exact fun _ => rfl
                      have e11 : a0.tmps.getD 11 undef = .pointer (some ⟨gz, 0, none⟩) := by rw [ha0]; rfl
                      have f11 : ∀ h : 11 < a0.tmps.size, a0.tmps[11] = .pointer (some ⟨gz, 0, none⟩) := by subst ha0; exact fun _ => rfl
                      have HA0 := Lib.hid ha0
                      clear ha0
                      refine Og.walk_lit [[],[0],[],[1,2,0],[3,1,2,0],[4,3,1,2,0],[4,3,1,2,0],[5,6,4,3,1,2,0],[4,7,3,1,2,0,5,6],[8,4,7,3,1,2,0,5,6],[9,8,4,7,3,1,2,0,5,6],[9,8,4,7,3,1,2,0,5,6],[10,11,9,8,4,7,3,1,2,0,5,6],[12,9,10,11,8,4,7,3,1,2,0,5,6],[13,9,12,10,11,8,4,7,3,1,2,0,5,6],[9,14,8,4,7,3,1,2,0,5,6,13,12,10,11],[15,9,14,8,4,7,3,1,2,0,5,6,13,12,10,11],[16,15,9,14,8,4,7,3,1,2,0,5,6,13,12,10,11],[16,15,9,14,8,4,7,3,1,2,0,5,6,13,12,10,11],[18,16,15,9,14,8,4,7,3,1,2,0,5,6,13,12,10,11],[17,19,16,15,9,14,8,4,7,3,1,2,0,5,6,13,12,10,11,18],[20,16,17,19,15,9,14,8,4,7,3,1,2,0,5,6,13,12,10,11,18],[21,16,20,17,19,15,9,14,8,4,7,3,1,2,0,5,6,13,12,10,11,18],[16,22,15,9,14,8,4,7,3,1,2,0,5,6,13,12,10,11,21,20,17,19,18],[23,16,22,15,9,14,8,4,7,3,1,2,0,5,6,13,12,10,11,21,20,17,19,18],[24,23,16,22,15,9,14,8,4,7,3,1,2,0,5,6,13,12,10,11,21,20,17,19,18],[24,23,16,22,15,9,14,8,4,7,3,1,2,0,5,6,13,12,10,11,21,20,17,19,18],[26,24,23,16,22,15,9,14,8,4,7,3,1,2,0,5,6,13,12,10,11,21,20,17,19,18],[25,27,24,23,16,22,15,9,14,8,4,7,3,1,2,0,5,6,13,12,10,11,21,20,17,19,18,26],[28,24,25,27,23,16,22,15,9,14,8,4,7,3,1,2,0,5,6,13,12,10,11,21,20,17,19,18,26],[24,23,16,22,15,9,14,8,4,7,3,1,2,0,5,6,13,12,10,11,21,20,17,19,18],[30,24,23,16,22,15,9,14,8,4,7,3,1,2,0,5,6,13,12,10,11,21,20,17,19,18],[29,31,24,28,25,27,23,16,22,15,9,14,8,4,7,3,1,2,0,5,6,13,12,10,11,21,20,17,19,18,26,30],[24,23,16,22,15,9,14,8,4,7,3,1,2,0,5,6,13,12,10,11,21,20,17,19,18],[24,23,16,22,15,9,14,8,4,7,3,1,2,0,5,6,13,12,10,11,21,20,17,19,18],[33,34,24,23,16,22,15,9,14,8,4,7,3,1,2,0,5,6,13,12,10,11,21,20,17,19,18],[35,24,33,34,23,16,22,15,9,14,8,4,7,3,1,2,0,5,6,13,12,10,11,21,20,17,19,18],[32,36,24,29,31,28,25,27,23,16,22,15,9,14,8,4,7,3,1,2,0,5,6,13,12,10,11,21,20,17,19,18,26,30,35,33,34],[24,37,23,16,22,15,9,14,8,4,7,3,1,2,0,5,6,13,12,10,11,21,20,17,19,18,32,36,29,31,28,25,27,26,30,35,33,34],[38,24,37,23,16,22,15,9,14,8,4,7,3,1,2,0,5,6,13,12,10,11,21,20,17,19,18,32,36,29,31,28,25,27,26,30,35,33,34],[39,38,24,37,23,16,22,15,9,14,8,4,7,3,1,2,0,5,6,13,12,10,11,21,20,17,19,18,32,36,29,31,28,25,27,26,30,35,33,34],[40,39,38,24,37,23,16,22,15,9,14,8,4,7,3,1,2,0,5,6,13,12,10,11,21,20,17,19,18,32,36,29,31,28,25,27,26,30,35,33,34],[39,38,24,37,23,16,22,15,9,14,8,4,7,3,1,2,0,5,6,13,12,10,11,21,20,17,19,18,32,36,29,31,28,25,27,26,30,35,33,34],[41,42,39,40,38,24,37,23,16,22,15,9,14,8,4,7,3,1,2,0,5,6,13,12,10,11,21,20,17,19,18,32,36,29,31,28,25,27,26,30,35,33,34],[43,39,41,42,40,38,24,37,23,16,22,15,9,14,8,4,7,3,1,2,0,5,6,13,12,10,11,21,20,17,19,18,32,36,29,31,28,25,27,26,30,35,33,34],[44,43,39,41,42,40,38,24,37,23,16,22,15,9,14,8,4,7,3,1,2,0,5,6,13,12,10,11,21,20,17,19,18,32,36,29,31,28,25,27,26,30,35,33,34],[44,43,39,41,42,40,38,24,37,23,16,22,15,9,14,8,4,7,3,1,2,0,5,6,13,12,10,11,21,20,17,19,18,32,36,29,31,28,25,27,26,30,35,33,34],[46,44,43,39,41,42,40,38,24,37,23,16,22,15,9,14,8,4,7,3,1,2,0,5,6,13,12,10,11,21,20,17,19,18,32,36,29,31,28,25,27,26,30,35,33,34],[45,47,44,43,39,41,42,40,38,24,37,23,16,22,15,9,14,8,4,7,3,1,2,0,5,6,13,12,10,11,21,20,17,19,18,32,36,29,31,28,25,27,26,30,35,33,34,46],[48,44,45,47,43,39,41,42,40,38,24,37,23,16,22,15,9,14,8,4,7,3,1,2,0,5,6,13,12,10,11,21,20,17,19,18,32,36,29,31,28,25,27,26,30,35,33,34,46],[44,49,39,43,41,42,40,38,24,37,23,16,22,15,9,14,8,4,7,3,1,2,0,5,6,13,12,10,11,21,20,17,19,18,32,36,29,31,28,25,27,26,30,35,33,34,48,45,47,46],[39,50,38,24,37,23,16,22,15,9,14,8,4,7,3,1,2,0,5,6,13,12,10,11,21,20,17,19,18,32,36,29,31,28,25,27,26,30,35,33,34,44,49,43,41,42,40,48,45,47,46]] (fun w2 => Below w3.heap.size w3 w2) (fun w1 w2 => Below w1.heap.size w1 w2) (by kernel_rfl) (by kernel_rfl) (bdrew) ?_
                      repeat (first | (refine Og.step_pure (fun _ => Below.refl _ _) ?_; apply Exists.intro; refine And.intro ?_ ?_; focus (intro vs w2 hC hk; have hm := HC w2 hC; revert hk; simp only [Og.KS, Og.K0, Og.Is, List.getD_cons_zero, List.getD_cons_succ, List.getD_nil, List.contains_cons, List.contains_nil, Nat.reduceAdd, Nat.reduceBEq, Bool.or_false, Bool.false_or, Bool.or_true, Bool.true_or, Bool.false_eq_true, false_implies, true_implies, true_and, and_true, forall_const]; intros; go_simp; rfl)) | (refine Og.step_one ?_; apply Exists.intro; refine And.intro ?_ ?_; focus (intro vs w2 hC hk; have hm := HC w2 hC; revert hk; simp only [Og.KS, Og.K0, Og.Is, List.getD_cons_zero, List.getD_cons_succ, List.getD_nil, List.contains_cons, List.contains_nil, Nat.reduceAdd, Nat.reduceBEq, Bool.or_false, Bool.false_or, Bool.or_true, Bool.true_or, Bool.false_eq_true, false_implies, true_implies, true_and, and_true, forall_const]; intros; go_simp; with_reducible refine (HO2.out _ hC).mono ?_; rintro e w3 ⟨rfl, hb⟩; exact Og.RetV.mk ⟨bthen hC hb, hb, rfl⟩)))
                      intro vs w4 hC hk
                      have hm := HC w4 hC
                      simp only [Og.KS, Og.K0, Og.Is, List.getD_cons_zero, List.getD_cons_succ, List.getD_nil, List.contains_cons, List.contains_nil, Nat.reduceAdd, Nat.reduceBEq, Bool.or_false, Bool.false_or, Bool.or_true, Bool.true_or, Bool.false_eq_true, false_implies, true_implies, true_and, and_true, forall_const] at hk
                      have ha0 := HA0.out
                      subst ha0
                      clear HA0 es e1 f1 e2 f2 e3 f3 e8 f8 e11 f11
                      simp only [hk, Act.put, List.setIfInBounds_toArray, List.set_cons_zero, List.set_cons_succ]
                      clear hk
                      have b4 := hC
                      have O4 := Lib.hid (own_below O3.out hC)
                      have L4 := Lib.hid (own_below L3.out hC)
                      have S4 := Lib.hid (Nat.le_trans S3.out hC.size)
                      have B4 := Lib.hid (B3.out.trans (below_low hC S3.out (Below.refl _ _)))
                      have q0 : w4.cell? ⟨gz, 0, none⟩ = some (.int .i64 fn) := hm.1
                      clear hC HC hm b4 O3 L3 B3 S3 HO2
                      go_wp2_with (at_builtin; refine wpList_appG cN 1 73 3 8 cN_len cN_one (by omega) Try.underlying73 cinfo3 rfl (by omega) rfl (.tmp 84) (.tmp 87) rfl (z + 1) _ v2 (parL ds fn (ls.take k) v) fn rfl rfl (own_below L4.out ((Below.refl _ _).alloc (Nat.le_refl _) _)) (heap_at rfl) HLL.out (alloc_le' S4.out) ?_; intro v5 w5 ho5 hg5; have b5 := app_below L4.out S4.out hg5; have L5 := Lib.hid ho5; have B5 := Lib.hid (B4.out.trans b5); have O5 := Lib.hid ((O4.out.alloc _).kept hg5 (own_apart (O4.out.alloc _) (L4.out.alloc (.cells #[] 3)) (by decide))); clear ho5 hg5 b5)
                      go_roundw
                      case rel => exact ⟨k + 1, _, by omega, rfl, by go_num, by rw [HE.out]; exact L5, O5, B5⟩
                      case measure => simp [intOf]; omega
                    · have e6 : ((fn : Int) = (root : Int)) = False := eq_false (by omega)
                      refine abs_act fun a0 ha0 => ?_
                      have es : a0.tmps.size = 99 := by rw [ha0]; rfl
                      have e1 : a0.tmps.getD 1 undef = .int .i64 root := by rw [ha0]; rfl
                      have f1 : ∀ h : 1 < a0.tmps.size, a0.tmps[1] = .int .i64 root := by subst ha0; exact fun _ => rfl
                      have e2 : a0.tmps.getD 2 undef = .slice (some ⟨gd, od, none⟩) 128 c3 := by rw [ha0]; rfl
                      have f2 : ∀ h : 2 < a0.tmps.size, a0.tmps[2] = .slice (some ⟨gd, od, none⟩) 128 c3 := by subst ha0; exact fun _ => rfl
                      have e3 : a0.tmps.getD 3 undef = .pointer (some ⟨z, 0, none⟩) := by rw [ha0]; rfl
                      have f3 : ∀ h : 3 < a0.tmps.size, a0.tmps[3] = .pointer (some ⟨z, 0, none⟩) := by subst ha0; exact fun _ => rfl
                      have e8 : a0.tmps.getD 8 undef = .int .i64 v := by rw [ha0]; rfl
                      have f8 : ∀ h : 8 < a0.tmps.size, a0.tmps[8] = .int .i64 v := by subst ha0; exact fun _ => rfl
                      have e11 : a0.tmps.getD 11 undef = .pointer (some ⟨gz, 0, none⟩) := by rw [ha0]; rfl
                      have f11 : ∀ h : 11 < a0.tmps.size, a0.tmps[11] = .pointer (some ⟨gz, 0, none⟩) := by subst ha0; exact fun _ => rfl
                      have HA0 := Lib.hid ha0
                      clear ha0
                      refine Og.walk_lit [[],[0],[],[1,2,0],[3,1,2,0],[4,3,1,2,0],[4,3,1,2,0],[5,6,4,3,1,2,0],[4,7,3,1,2,0,5,6],[8,4,7,3,1,2,0,5,6],[9,8,4,7,3,1,2,0,5,6],[9,8,4,7,3,1,2,0,5,6],[10,11,9,8,4,7,3,1,2,0,5,6],[12,9,10,11,8,4,7,3,1,2,0,5,6],[13,9,12,10,11,8,4,7,3,1,2,0,5,6],[9,14,8,4,7,3,1,2,0,5,6,13,12,10,11],[15,9,14,8,4,7,3,1,2,0,5,6,13,12,10,11],[16,15,9,14,8,4,7,3,1,2,0,5,6,13,12,10,11],[16,15,9,14,8,4,7,3,1,2,0,5,6,13,12,10,11],[18,16,15,9,14,8,4,7,3,1,2,0,5,6,13,12,10,11],[17,19,16,15,9,14,8,4,7,3,1,2,0,5,6,13,12,10,11,18],[20,16,17,19,15,9,14,8,4,7,3,1,2,0,5,6,13,12,10,11,18],[21,16,20,17,19,15,9,14,8,4,7,3,1,2,0,5,6,13,12,10,11,18],[16,22,15,9,14,8,4,7,3,1,2,0,5,6,13,12,10,11,21,20,17,19,18],[23,16,22,15,9,14,8,4,7,3,1,2,0,5,6,13,12,10,11,21,20,17,19,18],[24,23,16,22,15,9,14,8,4,7,3,1,2,0,5,6,13,12,10,11,21,20,17,19,18],[24,23,16,22,15,9,14,8,4,7,3,1,2,0,5,6,13,12,10,11,21,20,17,19,18],[26,24,23,16,22,15,9,14,8,4,7,3,1,2,0,5,6,13,12,10,11,21,20,17,19,18],[25,27,24,23,16,22,15,9,14,8,4,7,3,1,2,0,5,6,13,12,10,11,21,20,17,19,18,26],[28,24,25,27,23,16,22,15,9,14,8,4,7,3,1,2,0,5,6,13,12,10,11,21,20,17,19,18,26],[24,23,16,22,15,9,14,8,4,7,3,1,2,0,5,6,13,12,10,11,21,20,17,19,18],[30,24,23,16,22,15,9,14,8,4,7,3,1,2,0,5,6,13,12,10,11,21,20,17,19,18],[29,31,24,28,25,27,23,16,22,15,9,14,8,4,7,3,1,2,0,5,6,13,12,10,11,21,20,17,19,18,26,30],[24,23,16,22,15,9,14,8,4,7,3,1,2,0,5,6,13,12,10,11,21,20,17,19,18],[24,23,16,22,15,9,14,8,4,7,3,1,2,0,5,6,13,12,10,11,21,20,17,19,18],[33,34,24,23,16,22,15,9,14,8,4,7,3,1,2,0,5,6,13,12,10,11,21,20,17,19,18],[35,24,33,34,23,16,22,15,9,14,8,4,7,3,1,2,0,5,6,13,12,10,11,21,20,17,19,18],[32,36,24,29,31,28,25,27,23,16,22,15,9,14,8,4,7,3,1,2,0,5,6,13,12,10,11,21,20,17,19,18,26,30,35,33,34],[24,37,23,16,22,15,9,14,8,4,7,3,1,2,0,5,6,13,12,10,11,21,20,17,19,18,32,36,29,31,28,25,27,26,30,35,33,34],[38,24,37,23,16,22,15,9,14,8,4,7,3,1,2,0,5,6,13,12,10,11,21,20,17,19,18,32,36,29,31,28,25,27,26,30,35,33,34],[39,38,24,37,23,16,22,15,9,14,8,4,7,3,1,2,0,5,6,13,12,10,11,21,20,17,19,18,32,36,29,31,28,25,27,26,30,35,33,34],[40,39,38,24,37,23,16,22,15,9,14,8,4,7,3,1,2,0,5,6,13,12,10,11,21,20,17,19,18,32,36,29,31,28,25,27,26,30,35,33,34],[39,38,24,37,23,16,22,15,9,14,8,4,7,3,1,2,0,5,6,13,12,10,11,21,20,17,19,18,32,36,29,31,28,25,27,26,30,35,33,34],[41,42,39,40,38,24,37,23,16,22,15,9,14,8,4,7,3,1,2,0,5,6,13,12,10,11,21,20,17,19,18,32,36,29,31,28,25,27,26,30,35,33,34],[43,39,41,42,40,38,24,37,23,16,22,15,9,14,8,4,7,3,1,2,0,5,6,13,12,10,11,21,20,17,19,18,32,36,29,31,28,25,27,26,30,35,33,34],[44,43,39,41,42,40,38,24,37,23,16,22,15,9,14,8,4,7,3,1,2,0,5,6,13,12,10,11,21,20,17,19,18,32,36,29,31,28,25,27,26,30,35,33,34],[44,43,39,41,42,40,38,24,37,23,16,22,15,9,14,8,4,7,3,1,2,0,5,6,13,12,10,11,21,20,17,19,18,32,36,29,31,28,25,27,26,30,35,33,34],[46,44,43,39,41,42,40,38,24,37,23,16,22,15,9,14,8,4,7,3,1,2,0,5,6,13,12,10,11,21,20,17,19,18,32,36,29,31,28,25,27,26,30,35,33,34],[45,47,44,43,39,41,42,40,38,24,37,23,16,22,15,9,14,8,4,7,3,1,2,0,5,6,13,12,10,11,21,20,17,19,18,32,36,29,31,28,25,27,26,30,35,33,34,46],[48,44,45,47,43,39,41,42,40,38,24,37,23,16,22,15,9,14,8,4,7,3,1,2,0,5,6,13,12,10,11,21,20,17,19,18,32,36,29,31,28,25,27,26,30,35,33,34,46],[44,49,39,43,41,42,40,38,24,37,23,16,22,15,9,14,8,4,7,3,1,2,0,5,6,13,12,10,11,21,20,17,19,18,32,36,29,31,28,25,27,26,30,35,33,34,48,45,47,46],[39,50,38,24,37,23,16,22,15,9,14,8,4,7,3,1,2,0,5,6,13,12,10,11,21,20,17,19,18,32,36,29,31,28,25,27,26,30,35,33,34,44,49,43,41,42,40,48,45,47,46]] (fun w2 => Below w3.heap.size w3 w2) (fun w1 w2 => Below w1.heap.size w1 w2) (by kernel_rfl) (by kernel_rfl) (bdrew) ?_
                      repeat (first | (refine Og.step_pure (fun _ => Below.refl _ _) ?_; apply Exists.intro; refine And.intro ?_ ?_; focus (intro vs w2 hC hk; have hm := HC w2 hC; revert hk; simp only [Og.KS, Og.K0, Og.Is, List.getD_cons_zero, List.getD_cons_succ, List.getD_nil, List.contains_cons, List.contains_nil, Nat.reduceAdd, Nat.reduceBEq, Bool.or_false, Bool.false_or, Bool.or_true, Bool.true_or, Bool.false_eq_true, false_implies, true_implies, true_and, and_true, forall_const]; intros; go_simp; rfl)) | (refine Og.step_one ?_; apply Exists.intro; refine And.intro ?_ ?_; focus (intro vs w2 hC hk; have hm := HC w2 hC; revert hk; simp only [Og.KS, Og.K0, Og.Is, List.getD_cons_zero, List.getD_cons_succ, List.getD_nil, List.contains_cons, List.contains_nil, Nat.reduceAdd, Nat.reduceBEq, Bool.or_false, Bool.false_or, Bool.or_true, Bool.true_or, Bool.false_eq_true, false_implies, true_implies, true_and, and_true, forall_const]; intros; go_simp; with_reducible refine (HO2.out _ hC).mono ?_; rintro e w3 ⟨rfl, hb⟩; exact Og.RetV.mk ⟨bthen hC hb, hb, rfl⟩)))
                      intro vs w4 hC hk
                      have hm := HC w4 hC
                      simp only [Og.KS, Og.K0, Og.Is, List.getD_cons_zero, List.getD_cons_succ, List.getD_nil, List.contains_cons, List.contains_nil, Nat.reduceAdd, Nat.reduceBEq, Bool.or_false, Bool.false_or, Bool.or_true, Bool.true_or, Bool.false_eq_true, false_implies, true_implies, true_and, and_true, forall_const] at hk
                      have ha0 := HA0.out
                      subst ha0
                      clear HA0 es e1 f1 e2 f2 e3 f3 e8 f8 e11 f11
                      simp only [hk, Act.put, List.setIfInBounds_toArray, List.set_cons_zero, List.set_cons_succ]
                      clear hk
                      have b4 := hC
                      have O4 := Lib.hid (own_below O3.out hC)
                      have L4 := Lib.hid (own_below L3.out hC)
                      have S4 := Lib.hid (Nat.le_trans S3.out hC.size)
                      have B4 := Lib.hid (B3.out.trans (below_low hC S3.out (Below.refl _ _)))
                      have q0 : w4.cell? ⟨gz, 0, none⟩ = some (.int .i64 fn) := hm.1
                      clear hC HC hm b4 O3 L3 B3 S3 HO2
                      go_wp2_with (at_builtin; refine wpList_appG cN 1 73 3 8 cN_len cN_one (by omega) Try.underlying73 cinfo3 rfl (by omega) rfl (.tmp 84) (.tmp 87) rfl (z + 1) _ v2 (parL ds root (ls.take k) v) fn rfl rfl (own_below L4.out ((Below.refl _ _).alloc (Nat.le_refl _) _)) (heap_at rfl) HLL.out (alloc_le' S4.out) ?_; intro v5 w5 ho5 hg5; have b5 := app_below L4.out S4.out hg5; have L5 := Lib.hid ho5; have B5 := Lib.hid (B4.out.trans b5); have O5 := Lib.hid ((O4.out.alloc _).kept hg5 (own_apart (O4.out.alloc _) (L4.out.alloc (.cells #[] 3)) (by decide))); clear ho5 hg5 b5)
                      go_roundw
                      case rel => exact ⟨k + 1, _, by omega, rfl, by go_num, by rw [HE.out]; exact L5, O5, B5⟩
                      case measure => simp [intOf]; omega
                  · have e5 : (s = y) = False := eq_false h5
                    have HE : Hid (parL ds root (ls.take (k + 1)) v = parL ds root (ls.take k) v) := Lib.hid (by rw [HTK.out, HP.out]; simp [h5])
                    clear HTK HP
                    refine abs_act fun a0 ha0 => ?_
                    have es : a0.tmps.size = 99 := by rw [ha0]; rfl
                    have e1 : a0.tmps.getD 1 undef = .int .i64 root := by rw [ha0]; rfl
                    have f1 : ∀ h : 1 < a0.tmps.size, a0.tmps[1] = .int .i64 root := by subst ha0; exact fun _ => rfl
                    have e2 : a0.tmps.getD 2 undef = .slice (some ⟨gd, od, none⟩) 128 c3 := by rw [ha0]; rfl
                    have f2 : ∀ h : 2 < a0.tmps.size, a0.tmps[2] = .slice (some ⟨gd, od, none⟩) 128 c3 := by subst ha0; exact fun _ => rfl
                    have e3 : a0.tmps.getD 3 undef = .pointer (some ⟨z, 0, none⟩) := by rw [ha0]; rfl
                    have f3 : ∀ h : 3 < a0.tmps.size, a0.tmps[3] = .pointer (some ⟨z, 0, none⟩) := by subst ha0; exact fun _ => rfl
                    have e8 : a0.tmps.getD 8 undef = .int .i64 v := by rw [ha0]; rfl
                    have f8 : ∀ h : 8 < a0.tmps.size, a0.tmps[8] = .int .i64 v := by subst ha0; exact fun _ => rfl
                    have e11 : a0.tmps.getD 11 undef = .pointer (some ⟨gz, 0, none⟩) := by rw [ha0]; rfl
                    have f11 : ∀ h : 11 < a0.tmps.size, a0.tmps[11] = .pointer (some ⟨gz, 0, none⟩) := by subst ha0; exact fun _ => rfl
                    have HA0 := Lib.hid ha0
                    clear ha0
                    refine Og.walk_lit [[],[0],[],[1,2,0],[3,1,2,0],[4,3,1,2,0],[4,3,1,2,0],[5,6,4,3,1,2,0],[4,7,3,1,2,0,5,6],[8,4,7,3,1,2,0,5,6],[9,8,4,7,3,1,2,0,5,6],[9,8,4,7,3,1,2,0,5,6],[10,11,9,8,4,7,3,1,2,0,5,6],[12,9,10,11,8,4,7,3,1,2,0,5,6],[13,9,12,10,11,8,4,7,3,1,2,0,5,6],[9,14,8,4,7,3,1,2,0,5,6,13,12,10,11],[15,9,14,8,4,7,3,1,2,0,5,6,13,12,10,11],[16,15,9,14,8,4,7,3,1,2,0,5,6,13,12,10,11],[16,15,9,14,8,4,7,3,1,2,0,5,6,13,12,10,11],[18,16,15,9,14,8,4,7,3,1,2,0,5,6,13,12,10,11],[17,19,16,15,9,14,8,4,7,3,1,2,0,5,6,13,12,10,11,18],[20,16,17,19,15,9,14,8,4,7,3,1,2,0,5,6,13,12,10,11,18],[21,16,20,17,19,15,9,14,8,4,7,3,1,2,0,5,6,13,12,10,11,18],[16,22,15,9,14,8,4,7,3,1,2,0,5,6,13,12,10,11,21,20,17,19,18],[23,16,22,15,9,14,8,4,7,3,1,2,0,5,6,13,12,10,11,21,20,17,19,18],[24,23,16,22,15,9,14,8,4,7,3,1,2,0,5,6,13,12,10,11,21,20,17,19,18],[24,23,16,22,15,9,14,8,4,7,3,1,2,0,5,6,13,12,10,11,21,20,17,19,18],[26,24,23,16,22,15,9,14,8,4,7,3,1,2,0,5,6,13,12,10,11,21,20,17,19,18],[25,27,24,23,16,22,15,9,14,8,4,7,3,1,2,0,5,6,13,12,10,11,21,20,17,19,18,26],[28,24,25,27,23,16,22,15,9,14,8,4,7,3,1,2,0,5,6,13,12,10,11,21,20,17,19,18,26],[24,23,16,22,15,9,14,8,4,7,3,1,2,0,5,6,13,12,10,11,21,20,17,19,18],[30,24,23,16,22,15,9,14,8,4,7,3,1,2,0,5,6,13,12,10,11,21,20,17,19,18],[29,31,24,28,25,27,23,16,22,15,9,14,8,4,7,3,1,2,0,5,6,13,12,10,11,21,20,17,19,18,26,30],[24,23,16,22,15,9,14,8,4,7,3,1,2,0,5,6,13,12,10,11,21,20,17,19,18],[24,23,16,22,15,9,14,8,4,7,3,1,2,0,5,6,13,12,10,11,21,20,17,19,18],[33,34,24,23,16,22,15,9,14,8,4,7,3,1,2,0,5,6,13,12,10,11,21,20,17,19,18],[35,24,33,34,23,16,22,15,9,14,8,4,7,3,1,2,0,5,6,13,12,10,11,21,20,17,19,18],[32,36,24,29,31,28,25,27,23,16,22,15,9,14,8,4,7,3,1,2,0,5,6,13,12,10,11,21,20,17,19,18,26,30,35,33,34],[24,37,23,16,22,15,9,14,8,4,7,3,1,2,0,5,6,13,12,10,11,21,20,17,19,18,32,36,29,31,28,25,27,26,30,35,33,34],[38,24,37,23,16,22,15,9,14,8,4,7,3,1,2,0,5,6,13,12,10,11,21,20,17,19,18,32,36,29,31,28,25,27,26,30,35,33,34],[39,38,24,37,23,16,22,15,9,14,8,4,7,3,1,2,0,5,6,13,12,10,11,21,20,17,19,18,32,36,29,31,28,25,27,26,30,35,33,34],[40,39,38,24,37,23,16,22,15,9,14,8,4,7,3,1,2,0,5,6,13,12,10,11,21,20,17,19,18,32,36,29,31,28,25,27,26,30,35,33,34],[39,38,24,37,23,16,22,15,9,14,8,4,7,3,1,2,0,5,6,13,12,10,11,21,20,17,19,18,32,36,29,31,28,25,27,26,30,35,33,34],[41,42,39,40,38,24,37,23,16,22,15,9,14,8,4,7,3,1,2,0,5,6,13,12,10,11,21,20,17,19,18,32,36,29,31,28,25,27,26,30,35,33,34],[43,39,41,42,40,38,24,37,23,16,22,15,9,14,8,4,7,3,1,2,0,5,6,13,12,10,11,21,20,17,19,18,32,36,29,31,28,25,27,26,30,35,33,34],[44,43,39,41,42,40,38,24,37,23,16,22,15,9,14,8,4,7,3,1,2,0,5,6,13,12,10,11,21,20,17,19,18,32,36,29,31,28,25,27,26,30,35,33,34],[44,43,39,41,42,40,38,24,37,23,16,22,15,9,14,8,4,7,3,1,2,0,5,6,13,12,10,11,21,20,17,19,18,32,36,29,31,28,25,27,26,30,35,33,34],[46,44,43,39,41,42,40,38,24,37,23,16,22,15,9,14,8,4,7,3,1,2,0,5,6,13,12,10,11,21,20,17,19,18,32,36,29,31,28,25,27,26,30,35,33,34],[45,47,44,43,39,41,42,40,38,24,37,23,16,22,15,9,14,8,4,7,3,1,2,0,5,6,13,12,10,11,21,20,17,19,18,32,36,29,31,28,25,27,26,30,35,33,34,46],[48,44,45,47,43,39,41,42,40,38,24,37,23,16,22,15,9,14,8,4,7,3,1,2,0,5,6,13,12,10,11,21,20,17,19,18,32,36,29,31,28,25,27,26,30,35,33,34,46],[44,49,39,43,41,42,40,38,24,37,23,16,22,15,9,14,8,4,7,3,1,2,0,5,6,13,12,10,11,21,20,17,19,18,32,36,29,31,28,25,27,26,30,35,33,34,48,45,47,46],[39,50,38,24,37,23,16,22,15,9,14,8,4,7,3,1,2,0,5,6,13,12,10,11,21,20,17,19,18,32,36,29,31,28,25,27,26,30,35,33,34,44,49,43,41,42,40,48,45,47,46]] (fun w2 => Below w3.heap.size w3 w2) (fun w1 w2 => Below w1.heap.size w1 w2) (by kernel_rfl) (by kernel_rfl) (bdrew) ?_
                    repeat (first | (refine Og.step_pure (fun _ => Below.refl _ _) ?_; apply Exists.intro; refine And.intro ?_ ?_; focus (intro vs w2 hC hk; have hm := HC w2 hC; revert hk; simp only [Og.KS, Og.K0, Og.Is, List.getD_cons_zero, List.getD_cons_succ, List.getD_nil, List.contains_cons, List.contains_nil, Nat.reduceAdd, Nat.reduceBEq, Bool.or_false, Bool.false_or, Bool.or_true, Bool.true_or, Bool.false_eq_true, false_implies, true_implies, true_and, and_true, forall_const]; intros; go_simp; rfl)) | (refine Og.step_one ?_; apply Exists.intro; refine And.intro ?_ ?_; focus (intro vs w2 hC hk; have hm := HC w2 hC; revert hk; simp only [Og.KS, Og.K0, Og.Is, List.getD_cons_zero, List.getD_cons_succ, List.getD_nil, List.contains_cons, List.contains_nil, Nat.reduceAdd, Nat.reduceBEq, Bool.or_false, Bool.false_or, Bool.or_true, Bool.true_or, Bool.false_eq_true, false_implies, true_implies, true_and, and_true, forall_const]; intros; go_simp; with_reducible refine (HO2.out _ hC).mono ?_; rintro e w3 ⟨rfl, hb⟩; exact Og.RetV.mk ⟨bthen hC hb, hb, rfl⟩)))
                    intro vs w4 hC hk
                    have hm := HC w4 hC
                    simp only [Og.KS, Og.K0, Og.Is, List.getD_cons_zero, List.getD_cons_succ, List.getD_nil, List.contains_cons, List.contains_nil, Nat.reduceAdd, Nat.reduceBEq, Bool.or_false, Bool.false_or, Bool.or_true, Bool.true_or, Bool.false_eq_true, false_implies, true_implies, true_and, and_true, forall_const] at hk
                    have ha0 := HA0.out
                    subst ha0
                    clear HA0 es e1 f1 e2 f2 e3 f3 e8 f8 e11 f11
                    simp only [hk, Act.put, List.setIfInBounds_toArray, List.set_cons_zero, List.set_cons_succ]
                    clear hk
                    have b4 := hC
                    have O4 := Lib.hid (own_below O3.out hC)
                    have L4 := Lib.hid (own_below L3.out hC)
                    have S4 := Lib.hid (Nat.le_trans S3.out hC.size)
                    have B4 := Lib.hid (B3.out.trans (below_low hC S3.out (Below.refl _ _)))
                    have q0 : w4.cell? ⟨gz, 0, none⟩ = some (.int .i64 fn) := hm.1
                    clear hC HC hm b4 O3 L3 B3 S3 HO2
                    go_wp2_with fail
                    go_roundw
                    case rel => exact ⟨k + 1, _, by omega, rfl, by go_num, by rw [HE.out]; exact L4, O4, B4⟩
                    case measure => simp [intOf]; omega
                · have e4 : decide (x < 1073741824) = false := decide_eq_false h4
                  have HE : Hid (parL ds root (ls.take (k + 1)) v = parL ds root (ls.take k) v) := Lib.hid (by rw [HTK.out, HP.out]; simp [h4])
                  clear HTK HP
                  refine abs_act fun a0 ha0 => ?_
                  have es : a0.tmps.size = 99 := by rw [ha0]; rfl
                  have e1 : a0.tmps.getD 1 undef = .int .i64 root := by rw [ha0]; rfl
                  have f1 : ∀ h : 1 < a0.tmps.size, a0.tmps[1] = .int .i64 root := by subst ha0; exact fun _ => rfl
                  have e2 : a0.tmps.getD 2 undef = .slice (some ⟨gd, od, none⟩) 128 c3 := by rw [ha0]; rfl
                  have f2 : ∀ h : 2 < a0.tmps.size, a0.tmps[2] = .slice (some ⟨gd, od, none⟩) 128 c3 := by subst ha0; exact fun _ => rfl
                  have e3 : a0.tmps.getD 3 undef = .pointer (some ⟨z, 0, none⟩) := by rw [ha0]; rfl
                  have f3 : ∀ h : 3 < a0.tmps.size, a0.tmps[3] = .pointer (some ⟨z, 0, none⟩) := by subst ha0; exact fun _ => rfl
                  have e8 : a0.tmps.getD 8 undef = .int .i64 v := by rw [ha0]; rfl
                  have f8 : ∀ h : 8 < a0.tmps.size, a0.tmps[8] = .int .i64 v := by subst ha0; exact fun _ => rfl
                  have e11 : a0.tmps.getD 11 undef = .pointer (some ⟨gz, 0, none⟩) := by rw [ha0]; rfl
                  have f11 : ∀ h : 11 < a0.tmps.size, a0.tmps[11] = .pointer (some ⟨gz, 0, none⟩) := by subst ha0; exact fun _ => rfl
                  have HA0 := Lib.hid ha0
                  clear ha0
                  refine Og.walk_lit [[],[0],[],[1,2,0],[3,1,2,0],[4,3,1,2,0],[4,3,1,2,0],[5,6,4,3,1,2,0],[4,7,3,1,2,0,5,6],[8,4,7,3,1,2,0,5,6],[9,8,4,7,3,1,2,0,5,6],[9,8,4,7,3,1,2,0,5,6],[10,11,9,8,4,7,3,1,2,0,5,6],[12,9,10,11,8,4,7,3,1,2,0,5,6],[13,9,12,10,11,8,4,7,3,1,2,0,5,6],[9,14,8,4,7,3,1,2,0,5,6,13,12,10,11],[15,9,14,8,4,7,3,1,2,0,5,6,13,12,10,11],[16,15,9,14,8,4,7,3,1,2,0,5,6,13,12,10,11],[16,15,9,14,8,4,7,3,1,2,0,5,6,13,12,10,11],[18,16,15,9,14,8,4,7,3,1,2,0,5,6,13,12,10,11],[17,19,16,15,9,14,8,4,7,3,1,2,0,5,6,13,12,10,11,18],[20,16,17,19,15,9,14,8,4,7,3,1,2,0,5,6,13,12,10,11,18],[21,16,20,17,19,15,9,14,8,4,7,3,1,2,0,5,6,13,12,10,11,18],[16,22,15,9,14,8,4,7,3,1,2,0,5,6,13,12,10,11,21,20,17,19,18],[23,16,22,15,9,14,8,4,7,3,1,2,0,5,6,13,12,10,11,21,20,17,19,18],[24,23,16,22,15,9,14,8,4,7,3,1,2,0,5,6,13,12,10,11,21,20,17,19,18],[24,23,16,22,15,9,14,8,4,7,3,1,2,0,5,6,13,12,10,11,21,20,17,19,18],[26,24,23,16,22,15,9,14,8,4,7,3,1,2,0,5,6,13,12,10,11,21,20,17,19,18],[25,27,24,23,16,22,15,9,14,8,4,7,3,1,2,0,5,6,13,12,10,11,21,20,17,19,18,26],[28,24,25,27,23,16,22,15,9,14,8,4,7,3,1,2,0,5,6,13,12,10,11,21,20,17,19,18,26],[24,23,16,22,15,9,14,8,4,7,3,1,2,0,5,6,13,12,10,11,21,20,17,19,18],[30,24,23,16,22,15,9,14,8,4,7,3,1,2,0,5,6,13,12,10,11,21,20,17,19,18],[29,31,24,28,25,27,23,16,22,15,9,14,8,4,7,3,1,2,0,5,6,13,12,10,11,21,20,17,19,18,26,30],[24,23,16,22,15,9,14,8,4,7,3,1,2,0,5,6,13,12,10,11,21,20,17,19,18],[24,23,16,22,15,9,14,8,4,7,3,1,2,0,5,6,13,12,10,11,21,20,17,19,18],[33,34,24,23,16,22,15,9,14,8,4,7,3,1,2,0,5,6,13,12,10,11,21,20,17,19,18],[35,24,33,34,23,16,22,15,9,14,8,4,7,3,1,2,0,5,6,13,12,10,11,21,20,17,19,18],[32,36,24,29,31,28,25,27,23,16,22,15,9,14,8,4,7,3,1,2,0,5,6,13,12,10,11,21,20,17,19,18,26,30,35,33,34],[24,37,23,16,22,15,9,14,8,4,7,3,1,2,0,5,6,13,12,10,11,21,20,17,19,18,32,36,29,31,28,25,27,26,30,35,33,34],[38,24,37,23,16,22,15,9,14,8,4,7,3,1,2,0,5,6,13,12,10,11,21,20,17,19,18,32,36,29,31,28,25,27,26,30,35,33,34],[39,38,24,37,23,16,22,15,9,14,8,4,7,3,1,2,0,5,6,13,12,10,11,21,20,17,19,18,32,36,29,31,28,25,27,26,30,35,33,34],[40,39,38,24,37,23,16,22,15,9,14,8,4,7,3,1,2,0,5,6,13,12,10,11,21,20,17,19,18,32,36,29,31,28,25,27,26,30,35,33,34],[39,38,24,37,23,16,22,15,9,14,8,4,7,3,1,2,0,5,6,13,12,10,11,21,20,17,19,18,32,36,29,31,28,25,27,26,30,35,33,34],[41,42,39,40,38,24,37,23,16,22,15,9,14,8,4,7,3,1,2,0,5,6,13,12,10,11,21,20,17,19,18,32,36,29,31,28,25,27,26,30,35,33,34],[43,39,41,42,40,38,24,37,23,16,22,15,9,14,8,4,7,3,1,2,0,5,6,13,12,10,11,21,20,17,19,18,32,36,29,31,28,25,27,26,30,35,33,34],[44,43,39,41,42,40,38,24,37,23,16,22,15,9,14,8,4,7,3,1,2,0,5,6,13,12,10,11,21,20,17,19,18,32,36,29,31,28,25,27,26,30,35,33,34],[44,43,39,41,42,40,38,24,37,23,16,22,15,9,14,8,4,7,3,1,2,0,5,6,13,12,10,11,21,20,17,19,18,32,36,29,31,28,25,27,26,30,35,33,34],[46,44,43,39,41,42,40,38,24,37,23,16,22,15,9,14,8,4,7,3,1,2,0,5,6,13,12,10,11,21,20,17,19,18,32,36,29,31,28,25,27,26,30,35,33,34],[45,47,44,43,39,41,42,40,38,24,37,23,16,22,15,9,14,8,4,7,3,1,2,0,5,6,13,12,10,11,21,20,17,19,18,32,36,29,31,28,25,27,26,30,35,33,34,46],[48,44,45,47,43,39,41,42,40,38,24,37,23,16,22,15,9,14,8,4,7,3,1,2,0,5,6,13,12,10,11,21,20,17,19,18,32,36,29,31,28,25,27,26,30,35,33,34,46],[44,49,39,43,41,42,40,38,24,37,23,16,22,15,9,14,8,4,7,3,1,2,0,5,6,13,12,10,11,21,20,17,19,18,32,36,29,31,28,25,27,26,30,35,33,34,48,45,47,46],[39,50,38,24,37,23,16,22,15,9,14,8,4,7,3,1,2,0,5,6,13,12,10,11,21,20,17,19,18,32,36,29,31,28,25,27,26,30,35,33,34,44,49,43,41,42,40,48,45,47,46]] (fun w2 => Below w3.heap.size w3 w2) (fun w1 w2 => Below w1.heap.size w1 w2) (by kernel_rfl) (by kernel_rfl) (bdrew) ?_
                  repeat (first | (refine Og.step_pure (fun _ => Below.refl _ _) ?_; apply Exists.intro; refine And.intro ?_ ?_; focus (intro vs w2 hC hk; have hm := HC w2 hC; revert hk; simp only [Og.KS, Og.K0, Og.Is, List.getD_cons_zero, List.getD_cons_succ, List.getD_nil, List.contains_cons, List.contains_nil, Nat.reduceAdd, Nat.reduceBEq, Bool.or_false, Bool.false_or, Bool.or_true, Bool.true_or, Bool.false_eq_true, false_implies, true_implies, true_and, and_true, forall_const]; intros; go_simp; rfl)) | (refine Og.step_one ?_; apply Exists.intro; refine And.intro ?_ ?_; focus (intro vs w2 hC hk; have hm := HC w2 hC; revert hk; simp only [Og.KS, Og.K0, Og.Is, List.getD_cons_zero, List.getD_cons_succ, List.getD_nil, List.contains_cons, List.contains_nil, Nat.reduceAdd, Nat.reduceBEq, Bool.or_false, Bool.false_or, Bool.or_true, Bool.true_or, Bool.false_eq_true, false_implies, true_implies, true_and, and_true, forall_const]; intros; go_simp; with_reducible refine (HO2.out _ hC).mono ?_; rintro e w3 ⟨rfl, hb⟩; exact Og.RetV.mk ⟨bthen hC hb, hb, rfl⟩)))
                  intro vs w4 hC hk
                  have hm := HC w4 hC
                  simp only [Og.KS, Og.K0, Og.Is, List.getD_cons_zero, List.getD_cons_succ, List.getD_nil, List.contains_cons, List.contains_nil, Nat.reduceAdd, Nat.reduceBEq, Bool.or_false, Bool.false_or, Bool.or_true, Bool.true_or, Bool.false_eq_true, false_implies, true_implies, true_and, and_true, forall_const] at hk
                  have ha0 := HA0.out
                  subst ha0
                  clear HA0 es e1 f1 e2 f2 e3 f3 e8 f8 e11 f11
                  simp only [hk, Act.put, List.setIfInBounds_toArray, List.set_cons_zero, List.set_cons_succ]
                  clear hk
                  have b4 := hC
                  have O4 := Lib.hid (own_below O3.out hC)
                  have L4 := Lib.hid (own_below L3.out hC)
                  have S4 := Lib.hid (Nat.le_trans S3.out hC.size)
                  have B4 := Lib.hid (B3.out.trans (below_low hC S3.out (Below.refl _ _)))
                  have q0 : w4.cell? ⟨gz, 0, none⟩ = some (.int .i64 fn) := hm.1
                  clear hC HC hm b4 O3 L3 B3 S3 HO2
                  go_wp2_with fail
                  go_roundw
                  case rel => exact ⟨k + 1, _, by omega, rfl, by go_num, by rw [HE.out]; exact L4, O4, B4⟩
                  case measure => simp [intOf]; omega
              · have e3 : decide (y < 1073741824) = false := decide_eq_false h3
                have HE : Hid (parL ds root (ls.take (k + 1)) v = parL ds root (ls.take k) v) := Lib.hid (by rw [HTK.out, HP.out]; simp [h3])
                clear HTK HP
                refine abs_act fun a0 ha0 => ?_
                have es : a0.tmps.size = 99 := by rw [ha0]; rfl
                have e1 : a0.tmps.getD 1 undef = .int .i64 root := by rw [ha0]; rfl
                have f1 : ∀ h : 1 < a0.tmps.size, a0.tmps[1] = .int .i64 root := by subst ha0; exact fun _ => rfl
                have e2 : a0.tmps.getD 2 undef = .slice (some ⟨gd, od, none⟩) 128 c3 := by rw [ha0]; rfl
                have f2 : ∀ h : 2 < a0.tmps.size, a0.tmps[2] = .slice (some ⟨gd, od, none⟩) 128 c3 := by subst ha0; exact fun _ => rfl
                have e3 : a0.tmps.getD 3 undef = .pointer (some ⟨z, 0, none⟩) := by rw [ha0]; rfl
                have f3 : ∀ h : 3 < a0.tmps.size, a0.tmps[3] = .pointer (some ⟨z, 0, none⟩) := by subst ha0; exact fun _ => rfl
                have e8 : a0.tmps.getD 8 undef = .int .i64 v := by rw [ha0]; rfl
                have f8 : ∀ h : 8 < a0.tmps.size, a0.tmps[8] = .int .i64 v := by subst ha0; exact fun _ => rfl
                have e11 : a0.tmps.getD 11 undef = .pointer (some ⟨gz, 0, none⟩) := by rw [ha0]; rfl
                have f11 : ∀ h : 11 < a0.tmps.size, a0.tmps[11] = .pointer (some ⟨gz, 0, none⟩) := by subst ha0; exact fun _ => rfl
                have HA0 := Lib.hid ha0
                clear ha0
                refine Og.walk_lit [[],[0],[],[1,2,0],[3,1,2,0],[4,3,1,2,0],[4,3,1,2,0],[5,6,4,3,1,2,0],[4,7,3,1,2,0,5,6],[8,4,7,3,1,2,0,5,6],[9,8,4,7,3,1,2,0,5,6],[9,8,4,7,3,1,2,0,5,6],[10,11,9,8,4,7,3,1,2,0,5,6],[12,9,10,11,8,4,7,3,1,2,0,5,6],[13,9,12,10,11,8,4,7,3,1,2,0,5,6],[9,14,8,4,7,3,1,2,0,5,6,13,12,10,11],[15,9,14,8,4,7,3,1,2,0,5,6,13,12,10,11],[16,15,9,14,8,4,7,3,1,2,0,5,6,13,12,10,11],[16,15,9,14,8,4,7,3,1,2,0,5,6,13,12,10,11],[18,16,15,9,14,8,4,7,3,1,2,0,5,6,13,12,10,11],[17,19,16,15,9,14,8,4,7,3,1,2,0,5,6,13,12,10,11,18],[20,16,17,19,15,9,14,8,4,7,3,1,2,0,5,6,13,12,10,11,18],[21,16,20,17,19,15,9,14,8,4,7,3,1,2,0,5,6,13,12,10,11,18],[16,22,15,9,14,8,4,7,3,1,2,0,5,6,13,12,10,11,21,20,17,19,18],[23,16,22,15,9,14,8,4,7,3,1,2,0,5,6,13,12,10,11,21,20,17,19,18],[24,23,16,22,15,9,14,8,4,7,3,1,2,0,5,6,13,12,10,11,21,20,17,19,18],[24,23,16,22,15,9,14,8,4,7,3,1,2,0,5,6,13,12,10,11,21,20,17,19,18],[26,24,23,16,22,15,9,14,8,4,7,3,1,2,0,5,6,13,12,10,11,21,20,17,19,18],[25,27,24,23,16,22,15,9,14,8,4,7,3,1,2,0,5,6,13,12,10,11,21,20,17,19,18,26],[28,24,25,27,23,16,22,15,9,14,8,4,7,3,1,2,0,5,6,13,12,10,11,21,20,17,19,18,26],[24,23,16,22,15,9,14,8,4,7,3,1,2,0,5,6,13,12,10,11,21,20,17,19,18],[30,24,23,16,22,15,9,14,8,4,7,3,1,2,0,5,6,13,12,10,11,21,20,17,19,18],[29,31,24,28,25,27,23,16,22,15,9,14,8,4,7,3,1,2,0,5,6,13,12,10,11,21,20,17,19,18,26,30],[24,23,16,22,15,9,14,8,4,7,3,1,2,0,5,6,13,12,10,11,21,20,17,19,18],[24,23,16,22,15,9,14,8,4,7,3,1,2,0,5,6,13,12,10,11,21,20,17,19,18],[33,34,24,23,16,22,15,9,14,8,4,7,3,1,2,0,5,6,13,12,10,11,21,20,17,19,18],[35,24,33,34,23,16,22,15,9,14,8,4,7,3,1,2,0,5,6,13,12,10,11,21,20,17,19,18],[32,36,24,29,31,28,25,27,23,16,22,15,9,14,8,4,7,3,1,2,0,5,6,13,12,10,11,21,20,17,19,18,26,30,35,33,34],[24,37,23,16,22,15,9,14,8,4,7,3,1,2,0,5,6,13,12,10,11,21,20,17,19,18,32,36,29,31,28,25,27,26,30,35,33,34],[38,24,37,23,16,22,15,9,14,8,4,7,3,1,2,0,5,6,13,12,10,11,21,20,17,19,18,32,36,29,31,28,25,27,26,30,35,33,34],[39,38,24,37,23,16,22,15,9,14,8,4,7,3,1,2,0,5,6,13,12,10,11,21,20,17,19,18,32,36,29,31,28,25,27,26,30,35,33,34],[40,39,38,24,37,23,16,22,15,9,14,8,4,7,3,1,2,0,5,6,13,12,10,11,21,20,17,19,18,32,36,29,31,28,25,27,26,30,35,33,34],[39,38,24,37,23,16,22,15,9,14,8,4,7,3,1,2,0,5,6,13,12,10,11,21,20,17,19,18,32,36,29,31,28,25,27,26,30,35,33,34],[41,42,39,40,38,24,37,23,16,22,15,9,14,8,4,7,3,1,2,0,5,6,13,12,10,11,21,20,17,19,18,32,36,29,31,28,25,27,26,30,35,33,34],[43,39,41,42,40,38,24,37,23,16,22,15,9,14,8,4,7,3,1,2,0,5,6,13,12,10,11,21,20,17,19,18,32,36,29,31,28,25,27,26,30,35,33,34],[44,43,39,41,42,40,38,24,37,23,16,22,15,9,14,8,4,7,3,1,2,0,5,6,13,12,10,11,21,20,17,19,18,32,36,29,31,28,25,27,26,30,35,33,34],[44,43,39,41,42,40,38,24,37,23,16,22,15,9,14,8,4,7,3,1,2,0,5,6,13,12,10,11,21,20,17,19,18,32,36,29,31,28,25,27,26,30,35,33,34],[46,44,43,39,41,42,40,38,24,37,23,16,22,15,9,14,8,4,7,3,1,2,0,5,6,13,12,10,11,21,20,17,19,18,32,36,29,31,28,25,27,26,30,35,33,34],[45,47,44,43,39,41,42,40,38,24,37,23,16,22,15,9,14,8,4,7,3,1,2,0,5,6,13,12,10,11,21,20,17,19,18,32,36,29,31,28,25,27,26,30,35,33,34,46],[48,44,45,47,43,39,41,42,40,38,24,37,23,16,22,15,9,14,8,4,7,3,1,2,0,5,6,13,12,10,11,21,20,17,19,18,32,36,29,31,28,25,27,26,30,35,33,34,46],[44,49,39,43,41,42,40,38,24,37,23,16,22,15,9,14,8,4,7,3,1,2,0,5,6,13,12,10,11,21,20,17,19,18,32,36,29,31,28,25,27,26,30,35,33,34,48,45,47,46],[39,50,38,24,37,23,16,22,15,9,14,8,4,7,3,1,2,0,5,6,13,12,10,11,21,20,17,19,18,32,36,29,31,28,25,27,26,30,35,33,34,44,49,43,41,42,40,48,45,47,46]] (fun w2 => Below w3.heap.size w3 w2) (fun w1 w2 => Below w1.heap.size w1 w2) (by kernel_rfl) (by kernel_rfl) (bdrew) ?_
                repeat (first | (refine Og.step_pure (fun _ => Below.refl _ _) ?_; apply Exists.intro; refine And.intro ?_ ?_; focus (intro vs w2 hC hk; have hm := HC w2 hC; revert hk; simp only [Og.KS, Og.K0, Og.Is, List.getD_cons_zero, List.getD_cons_succ, List.getD_nil, List.contains_cons, List.contains_nil, Nat.reduceAdd, Nat.reduceBEq, Bool.or_false, Bool.false_or, Bool.or_true, Bool.true_or, Bool.false_eq_true, false_implies, true_implies, true_and, and_true, forall_const]; intros; go_simp; rfl)) | (refine Og.step_one ?_; apply Exists.intro; refine And.intro ?_ ?_; focus (intro vs w2 hC hk; have hm := HC w2 hC; revert hk; simp only [Og.KS, Og.K0, Og.Is, List.getD_cons_zero, List.getD_cons_succ, List.getD_nil, List.contains_cons, List.contains_nil, Nat.reduceAdd, Nat.reduceBEq, Bool.or_false, Bool.false_or, Bool.or_true, Bool.true_or, Bool.false_eq_true, false_implies, true_implies, true_and, and_true, forall_const]; intros; go_simp; with_reducible refine (HO2.out _ hC).mono ?_; rintro e w3 ⟨rfl, hb⟩; exact Og.RetV.mk ⟨bthen hC hb, hb, rfl⟩)))
                intro vs w4 hC hk
                have hm := HC w4 hC
                simp only [Og.KS, Og.K0, Og.Is, List.getD_cons_zero, List.getD_cons_succ, List.getD_nil, List.contains_cons, List.contains_nil, Nat.reduceAdd, Nat.reduceBEq, Bool.or_false, Bool.false_or, Bool.or_true, Bool.true_or, Bool.false_eq_true, false_implies, true_implies, true_and, and_true, forall_const] at hk
                have ha0 := HA0.out
                subst ha0
                clear HA0 es e1 f1 e2 f2 e3 f3 e8 f8 e11 f11
                simp only [hk, Act.put, List.setIfInBounds_toArray, List.set_cons_zero, List.set_cons_succ]
                clear hk
                have b4 := hC
                have O4 := Lib.hid (own_below O3.out hC)
                have L4 := Lib.hid (own_below L3.out hC)
                have S4 := Lib.hid (Nat.le_trans S3.out hC.size)
                have B4 := Lib.hid (B3.out.trans (below_low hC S3.out (Below.refl _ _)))
                have q0 : w4.cell? ⟨gz, 0, none⟩ = some (.int .i64 fn) := hm.1
                clear hC HC hm b4 O3 L3 B3 S3 HO2
                go_wp2_with fail
                go_roundw
                case rel => exact ⟨k + 1, _, by omega, rfl, by go_num, by rw [HE.out]; exact L4, O4, B4⟩
                case measure => simp [intOf]; omega
          · have e1 : ((tn : Int) = (v : Int)) = False := eq_false (by omega)
            have HE : Hid (parL ds root (ls.take (k + 1)) v = parL ds root (ls.take k) v) := Lib.hid (by rw [HTK.out, HP.out]; simp [h1])
            clear HTK HP
            refine abs_act fun a0 ha0 => ?_
            have es : a0.tmps.size = 99 := by rw [ha0]; rfl
            have e1 : a0.tmps.getD 1 undef = .int .i64 root := by rw [ha0]; rfl
            have f1 : ∀ h : 1 < a0.tmps.size, a0.tmps[1] = .int .i64 root := by subst ha0; exact fun _ => rfl
            have e2 : a0.tmps.getD 2 undef = .slice (some ⟨gd, od, none⟩) 128 c3 := by rw [ha0]; rfl
            have f2 : ∀ h : 2 < a0.tmps.size, a0.tmps[2] = .slice (some ⟨gd, od, none⟩) 128 c3 := by subst ha0; exact fun _ => rfl
            have e3 : a0.tmps.getD 3 undef = .pointer (some ⟨z, 0, none⟩) := by rw [ha0]; rfl
            have f3 : ∀ h : 3 < a0.tmps.size, a0.tmps[3] = .pointer (some ⟨z, 0, none⟩) := by subst ha0; exact fun _ => rfl
            have e8 : a0.tmps.getD 8 undef = .int .i64 v := by rw [ha0]; rfl
            have f8 : ∀ h : 8 < a0.tmps.size, a0.tmps[8] = .int .i64 v := by subst ha0; exact fun _ => rfl
            have e11 : a0.tmps.getD 11 undef = .pointer (some ⟨gz, 0, none⟩) := by rw [ha0]; rfl
            have f11 : ∀ h : 11 < a0.tmps.size, a0.tmps[11] = .pointer (some ⟨gz, 0, none⟩) := by subst ha0; exact fun _ => rfl
            have HA0 := Lib.hid ha0
            clear ha0
            refine Og.walk_lit [[],[0],[],[1,2,0],[3,1,2,0],[4,3,1,2,0],[4,3,1,2,0],[5,6,4,3,1,2,0],[4,7,3,1,2,0,5,6],[8,4,7,3,1,2,0,5,6],[9,8,4,7,3,1,2,0,5,6],[9,8,4,7,3,1,2,0,5,6],[10,11,9,8,4,7,3,1,2,0,5,6],[12,9,10,11,8,4,7,3,1,2,0,5,6],[13,9,12,10,11,8,4,7,3,1,2,0,5,6],[9,14,8,4,7,3,1,2,0,5,6,13,12,10,11],[15,9,14,8,4,7,3,1,2,0,5,6,13,12,10,11],[16,15,9,14,8,4,7,3,1,2,0,5,6,13,12,10,11],[16,15,9,14,8,4,7,3,1,2,0,5,6,13,12,10,11],[18,16,15,9,14,8,4,7,3,1,2,0,5,6,13,12,10,11],[17,19,16,15,9,14,8,4,7,3,1,2,0,5,6,13,12,10,11,18],[20,16,17,19,15,9,14,8,4,7,3,1,2,0,5,6,13,12,10,11,18],[21,16,20,17,19,15,9,14,8,4,7,3,1,2,0,5,6,13,12,10,11,18],[16,22,15,9,14,8,4,7,3,1,2,0,5,6,13,12,10,11,21,20,17,19,18],[23,16,22,15,9,14,8,4,7,3,1,2,0,5,6,13,12,10,11,21,20,17,19,18],[24,23,16,22,15,9,14,8,4,7,3,1,2,0,5,6,13,12,10,11,21,20,17,19,18],[24,23,16,22,15,9,14,8,4,7,3,1,2,0,5,6,13,12,10,11,21,20,17,19,18],[26,24,23,16,22,15,9,14,8,4,7,3,1,2,0,5,6,13,12,10,11,21,20,17,19,18],[25,27,24,23,16,22,15,9,14,8,4,7,3,1,2,0,5,6,13,12,10,11,21,20,17,19,18,26],[28,24,25,27,23,16,22,15,9,14,8,4,7,3,1,2,0,5,6,13,12,10,11,21,20,17,19,18,26],[24,23,16,22,15,9,14,8,4,7,3,1,2,0,5,6,13,12,10,11,21,20,17,19,18],[30,24,23,16,22,15,9,14,8,4,7,3,1,2,0,5,6,13,12,10,11,21,20,17,19,18],[29,31,24,28,25,27,23,16,22,15,9,14,8,4,7,3,1,2,0,5,6,13,12,10,11,21,20,17,19,18,26,30],[24,23,16,22,15,9,14,8,4,7,3,1,2,0,5,6,13,12,10,11,21,20,17,19,18],[24,23,16,22,15,9,14,8,4,7,3,1,2,0,5,6,13,12,10,11,21,20,17,19,18],[33,34,24,23,16,22,15,9,14,8,4,7,3,1,2,0,5,6,13,12,10,11,21,20,17,19,18],[35,24,33,34,23,16,22,15,9,14,8,4,7,3,1,2,0,5,6,13,12,10,11,21,20,17,19,18],[32,36,24,29,31,28,25,27,23,16,22,15,9,14,8,4,7,3,1,2,0,5,6,13,12,10,11,21,20,17,19,18,26,30,35,33,34],[24,37,23,16,22,15,9,14,8,4,7,3,1,2,0,5,6,13,12,10,11,21,20,17,19,18,32,36,29,31,28,25,27,26,30,35,33,34],[38,24,37,23,16,22,15,9,14,8,4,7,3,1,2,0,5,6,13,12,10,11,21,20,17,19,18,32,36,29,31,28,25,27,26,30,35,33,34],[39,38,24,37,23,16,22,15,9,14,8,4,7,3,1,2,0,5,6,13,12,10,11,21,20,17,19,18,32,36,29,31,28,25,27,26,30,35,33,34],[40,39,38,24,37,23,16,22,15,9,14,8,4,7,3,1,2,0,5,6,13,12,10,11,21,20,17,19,18,32,36,29,31,28,25,27,26,30,35,33,34],[39,38,24,37,23,16,22,15,9,14,8,4,7,3,1,2,0,5,6,13,12,10,11,21,20,17,19,18,32,36,29,31,28,25,27,26,30,35,33,34],[41,42,39,40,38,24,37,23,16,22,15,9,14,8,4,7,3,1,2,0,5,6,13,12,10,11,21,20,17,19,18,32,36,29,31,28,25,27,26,30,35,33,34],[43,39,41,42,40,38,24,37,23,16,22,15,9,14,8,4,7,3,1,2,0,5,6,13,12,10,11,21,20,17,19,18,32,36,29,31,28,25,27,26,30,35,33,34],[44,43,39,41,42,40,38,24,37,23,16,22,15,9,14,8,4,7,3,1,2,0,5,6,13,12,10,11,21,20,17,19,18,32,36,29,31,28,25,27,26,30,35,33,34],[44,43,39,41,42,40,38,24,37,23,16,22,15,9,14,8,4,7,3,1,2,0,5,6,13,12,10,11,21,20,17,19,18,32,36,29,31,28,25,27,26,30,35,33,34],[46,44,43,39,41,42,40,38,24,37,23,16,22,15,9,14,8,4,7,3,1,2,0,5,6,13,12,10,11,21,20,17,19,18,32,36,29,31,28,25,27,26,30,35,33,34],[45,47,44,43,39,41,42,40,38,24,37,23,16,22,15,9,14,8,4,7,3,1,2,0,5,6,13,12,10,11,21,20,17,19,18,32,36,29,31,28,25,27,26,30,35,33,34,46],[48,44,45,47,43,39,41,42,40,38,24,37,23,16,22,15,9,14,8,4,7,3,1,2,0,5,6,13,12,10,11,21,20,17,19,18,32,36,29,31,28,25,27,26,30,35,33,34,46],[44,49,39,43,41,42,40,38,24,37,23,16,22,15,9,14,8,4,7,3,1,2,0,5,6,13,12,10,11,21,20,17,19,18,32,36,29,31,28,25,27,26,30,35,33,34,48,45,47,46],[39,50,38,24,37,23,16,22,15,9,14,8,4,7,3,1,2,0,5,6,13,12,10,11,21,20,17,19,18,32,36,29,31,28,25,27,26,30,35,33,34,44,49,43,41,42,40,48,45,47,46]] (fun w2 => Below w3.heap.size w3 w2) (fun w1 w2 => Below w1.heap.size w1 w2) (by kernel_rfl) (by kernel_rfl) (bdrew) ?_
            repeat (first | (refine Og.step_pure (fun _ => Below.refl _ _) ?_; apply Exists.intro; refine And.intro ?_ ?_; focus (intro vs w2 hC hk; have hm := HC w2 hC; revert hk; simp only [Og.KS, Og.K0, Og.Is, List.getD_cons_zero, List.getD_cons_succ, List.getD_nil, List.contains_cons, List.contains_nil, Nat.reduceAdd, Nat.reduceBEq, Bool.or_false, Bool.false_or, Bool.or_true, Bool.true_or, Bool.false_eq_true, false_implies, true_implies, true_and, and_true, forall_const]; intros; go_simp; rfl)) | (refine Og.step_one ?_; apply Exists.intro; refine And.intro ?_ ?_; focus (intro vs w2 hC hk; have hm := HC w2 hC; revert hk; simp only [Og.KS, Og.K0, Og.Is, List.getD_cons_zero, List.getD_cons_succ, List.getD_nil, List.contains_cons, List.contains_nil, Nat.reduceAdd, Nat.reduceBEq, Bool.or_false, Bool.false_or, Bool.or_true, Bool.true_or, Bool.false_eq_true, false_implies, true_implies, true_and, and_true, forall_const]; intros; go_simp; with_reducible refine (HO2.out _ hC).mono ?_; rintro e w3 ⟨rfl, hb⟩; exact Og.RetV.mk ⟨bthen hC hb, hb, rfl⟩)))
            intro vs w4 hC hk
            have hm := HC w4 hC
            simp only [Og.KS, Og.K0, Og.Is, List.getD_cons_zero, List.getD_cons_succ, List.getD_nil, List.contains_cons, List.contains_nil, Nat.reduceAdd, Nat.reduceBEq, Bool.or_false, Bool.false_or, Bool.or_true, Bool.true_or, Bool.false_eq_true, false_implies, true_implies, true_and, and_true, forall_const] at hk
            have ha0 := HA0.out
            subst ha0
            clear HA0 es e1 f1 e2 f2 e3 f3 e8 f8 e11 f11
            simp only [hk, Act.put, List.setIfInBounds_toArray, List.set_cons_zero, List.set_cons_succ]
            clear hk
            have b4 := hC
            have O4 := Lib.hid (own_below O3.out hC)
            have L4 := Lib.hid (own_below L3.out hC)
            have S4 := Lib.hid (Nat.le_trans S3.out hC.size)
            have B4 := Lib.hid (B3.out.trans (below_low hC S3.out (Below.refl _ _)))
            have q0 : w4.cell? ⟨gz, 0, none⟩ = some (.int .i64 fn) := hm.1
            clear hC HC hm b4 O3 L3 B3 S3 HO2
            go_wp2_with fail
            go_roundw
            case rel => exact ⟨k + 1, _, by omega, rfl, by go_num, by rw [HE.out]; exact L4, O4, B4⟩
            case measure => simp [intOf]; omega
        · have hkn2 : k = n2 := by omega
          have hkf : ¬ ((k : Int) < (n2 : Int)) := by omega
          have q1 : wr.cell? ⟨z, 1, none⟩ = some (.slice A2 n2 c2) := by rw [cell_of_row _ _ 1 _ _ _ KR.out]; rfl
          have LF : Hid (wr.ownsRow (z + 1) 3 1 v2 (parL ds root ls v).length ((parL ds root ls v).flatMap cN)) := Lib.hid (by
            have h := hL.out
            rw [List.take_of_length_le (by rw [hkn2]; exact Nat.le_of_eq N2.out.symm)] at h
            exact h)
          have HOF : Hid (∀ w2, Below wr.heap.size wr w2 → Calls Try.prog 31 #[v2] w2 fun e w' => e = .returned (.tuple #[mV (ofM (parL ds root ls v)), .int .i64 0]) ∧ Below w2.heap.size w2 w') := Lib.hid (fun w2 hb => rOf_ok _ v2 w2 ((Sl_of_row cN_len (by omega) (own_lower LF.out (Nat.zero_le _)) rfl).below hb) (fun x hx => by
            unfold parL at hx
            obtain ⟨l, hm, rfl⟩ := List.mem_map.1 hx
            have := (HLS.out l (List.mem_filter.1 hm).1).1
            simp only [oks, Bool.and_eq_true, decide_eq_true_eq] at this
            omega) (Nat.le_trans (parL_len ..) (by have := N2.out; omega)))
          obtain ⟨M, hM⟩ : ∃ M, M = ofM (parL ds root ls v) := ⟨_, rfl⟩
          have HM := Lib.hid hM
          rw [← hM] at HOF
          unfold mV at HOF
          have HL8 : Hid ((parsR ds root ls v).length ≤ 1172812402926) := Lib.hid (by rw [parsR_l]; omega)
          clear hkn2 hL hM LF
          go_wp2_with fail
          with_reducible refine (HOF.out _ (Below.refl _ _)).mono ?_
          rintro e w3 ⟨rfl, hb3⟩
          have O3 := Lib.hid (own_below hO.out hb3)
          have B3 := Lib.hid (hB.out.trans (below_low hb3 SC.out hB.out))
          have S3 := Lib.hid (Nat.le_trans SR.out hb3.size)
          clear hb3 hO hB q1 KR HOF
          go_wp2_with (first | (refine wpList_storeN rfl 25 (.tmp 12) (.tmp 92) rfl rfl w3.heap.size (cM M).toArray rfl rfl 25 _ (heap_at rfl) cinfo25s rfl (by simp [Value.oneCell', cM]) ?_; intro w4 hz4 hb4 hn4 hs4; have b4 := below_storeA hb4; have Z4 := Lib.hid hz4; have O4 := Lib.hid (own_below O3.out b4); have B4 := Lib.hid (B3.out.trans (below_low b4 SC.out B3.out)); have S4 := Lib.hid (Nat.le_trans S3.out b4.size); clear hz4 hb4 hn4 hs4 b4) | (refine wpList_loadL rfl 25 (.tmp 12) rfl w3.heap.size 0 (.agg #[.int .u64 (loM M), .int .u64 (hiM M)]) rfl (cldM Z4.out) ?_) | (at_builtin; refine wpList_appG cM 2 97 25 16 cM_len cM_one (by omega) Try.underlying97 cinfo25 rfl (by omega) rfl (.tmp 94) (.tmp 96) rfl (z + 1) _ v1 (parsR ds root ls v) M rfl rfl (own_below O4.out ((Below.refl _ _).alloc (Nat.le_refl _) _)) (heap_at rfl) HL8.out (alloc_le' S4.out) ?_; intro v5 w5 ho5 hg5; have b5 := app_below O4.out S4.out hg5; have O5 := Lib.hid ho5; have B5 := Lib.hid (B4.out.trans b5); clear ho5 hg5 b5))
          go_roundw
          case rel => exact ⟨v + 1, _, by omega, rfl, by go_num, by rw [parsR_s, ← HM.out]; exact O5, B5⟩
          case measure => simp [intOf]; omega
    · have hv8 : v = 128 := by omega
      have hkf : ¬ ((v : Int) ≤ 127) := by omega
      have OF : Hid (wr.ownsRow (z + 1) 25 2 v1 128 ((parsR ds root ls 128).flatMap cM)) := Lib.hid (by have := hO.out; rw [hv8, parsR_l] at this; exact this)
      clear hv8 hlt
      go_wp2_with fail
      go_ret
      refine ⟨⟨_, rfl, ?_⟩, ?_⟩
      · rw [← HZ.out]
        exact own_lower OF.out (by omega)
      · exact BC.out.trans (hB.out.mono (by rw [HZ.out]; omega))

end Go.Proofs.Ytpklcefiabjplaa
