/- Rings: choosing the nodes that a closure names; conditions as stated. -/
import Derived.Test.YtpklcefiabjplaaS1
namespace Go.Proofs.Ytpklcefiabjplaa
open Go.ChangeShapes Go.WideShapes Go.ChangeAt Go.RowKit
set_option linter.unusedVariables false
set_option linter.unusedSimpArgs false
attribute [local go_sem] Og.Opt Og.OpY

attribute [local go_sem] Og.Opt Og.OpY
def chooseB (p : Int → Bool) : (Int × Int) → List Nd → Int × Int
  | s, [] => s
  | s, x :: xs => chooseB p (if p x.i = true then withB s x.i.toNat else s) xs
theorem chooseB_snoc (p : Int → Bool) : ∀ (xs : List Nd) (s : Int × Int) (x : Nd), chooseB p s (xs ++ [x]) = if p x.i = true then withB (chooseB p s xs) x.i.toNat else chooseB p s xs
  | [], s, x => rfl
  | y :: xs, s, x => by rw [List.cons_append, chooseB, chooseB_snoc p xs]; rfl
theorem take_snoc {α : Type} {xs : List α} {k : Nat} {x : α} (h : xs[k]? = some x) : xs.take (k + 1) = xs.take k ++ [x] := by
  rw [List.take_add_one, h]; rfl
set_option maxRecDepth 100000 in
set_option maxHeartbeats 8000000 in
theorem choose48_ok (c0 c1 c2 c3 c4 c5 : Value) (p : Int → Bool) (ns : List Nd) (ls : List Lk) (va vb vc : Value) (w : World) (g : GX w va vb vc ns ls)
    (HP : ∀ x ∈ ns, ∀ w2, Below w.heap.size w w2 → Calls Try.prog 48 #[.int .i64 x.i, c0, c1, c2, c3, c4, c5] w2 fun e w' => e = .returned (.bool (p x.i)) ∧ Below w2.heap.size w2 w') :
    Calls Try.prog 21 #[.agg #[va, vb, vc], .func (.func 48) #[] #[c0, c1, c2, c3, c4, c5]] w fun e w' => e = .returned (bV (chooseB p (0, 0) ns)) ∧ Below w.heap.size w w' := by
  have HPH := Lib.hid HP
  have HOK : Hid (∀ x ∈ ns, oks x.i = true) := Lib.hid fun x hm => by
    obtain ⟨i, hi⟩ := List.mem_iff_getElem?.1 hm
    have a1 := rng_of (g.snd.nr i x hi)
    simp only [oks, Bool.and_eq_true, decide_eq_true_eq]
    omega
  have hn0 := g.len
  obtain ⟨A, ca, rfl, hrd, -⟩ := g.sa
  obtain ⟨n, hn⟩ : ∃ n, n = ns.length := ⟨_, rfl⟩
  rw [← hn] at hn0 ⊢
  have HN := Lib.hid hn
  have HRD := Lib.hid hrd
  obtain ⟨z, hz⟩ : ∃ z, z = w.heap.size := ⟨_, rfl⟩
  have b1 : Below w.heap.size w (((w.alloc (.cells #[.slice A n ca, vb, vc] 33)).alloc (.cells #[.int .u64 0, .int .u64 0] 25)).alloc (.cells #[.int .u64 0, .int .u64 0] 25)) := (((Below.refl _ _).alloc (Nat.le_refl _) _).alloc (by simp) _).alloc (by simp; omega) _
  have k0 : (((w.alloc (.cells #[.slice A n ca, vb, vc] 33)).alloc (.cells #[.int .u64 0, .int .u64 0] 25)).alloc (.cells #[.int .u64 0, .int .u64 0] 25)).heap[z]? = some (.cells #[.slice A n ca, vb, vc] 33 (0, 0)) := heap_keep ((Below.refl _ _).alloc (Nat.le_refl _) _) (heap_keep ((Below.refl _ _).alloc (Nat.le_refl _) _) (heap_at hz))
  have k1 : (((w.alloc (.cells #[.slice A n ca, vb, vc] 33)).alloc (.cells #[.int .u64 0, .int .u64 0] 25)).alloc (.cells #[.int .u64 0, .int .u64 0] 25)).heap[z + 1]? = some (.cells (bCs (0, 0)) 25 (0, 0)) := heap_keep ((Below.refl _ _).alloc (Nat.le_refl _) _) (heap_at (by rw [hz]; simp))
  have k2 : (((w.alloc (.cells #[.slice A n ca, vb, vc] 33)).alloc (.cells #[.int .u64 0, .int .u64 0] 25)).alloc (.cells #[.int .u64 0, .int .u64 0] 25)).heap[z + 1 + 1]? = some (.cells (bCs (0, 0)) 25 (0, 0)) := heap_at (by rw [hz]; simp)
  have HZ := Lib.hid hz
  clear hrd g hn HP
  go_enter Try.func21, Try.ntmps21
  go_wp2_with fail
  rw [← hz]
  clear hz
  generalize (((w.alloc (.cells #[.slice A n ca, vb, vc] 33)).alloc (.cells #[.int .u64 0, .int .u64 0] 25)).alloc (.cells #[.int .u64 0, .int .u64 0] 25)) = wa at *
  have BA := Lib.hid b1
  have K1 := Lib.hid k1
  have K2 := Lib.hid k2
  have q0 : wa.cell? ⟨z, 0, none⟩ = some (.slice A n ca) := by rw [cell_of_row _ _ 0 _ _ _ k0]; rfl
  clear b1 k0 k1 k2
  go_wp2_with fail
  clear q0
  go_loopw [11] (fun i wr => ∃ k : Nat, k ≤ n ∧ i = .int .i64 k ∧ Hid (Below w.heap.size w wr) ∧ Hid (wr.heap[z + 1]? = some (.cells (bCs (0, 0)) 25 (0, 0))) ∧ Hid (wr.heap[z + 1 + 1]? = some (.cells (bCs (chooseB p (0, 0) (ns.take k))) 25 (0, 0)))) (fun i _ => n - (intOf i).toNat)
  case atStart => exact ⟨0, Nat.zero_le _, rfl, BA, K1, K2⟩
  case round =>
    clear BA K1 K2
    obtain ⟨k, hk, rfl, hb, k1, k2⟩ := hrel
    by_cases hlt : k < n
    · have hwk1 : IntKind.i64.wrap ((k : Int) + 1) = (k : Int) + 1 := by rw [IntKind.wrap_i64]; omega
      have hk0 : (0 : Int) ≤ (k : Int) := by omega
      have hkn : (k : Int) < (n : Int) := by omega
      obtain ⟨x, hx⟩ : ∃ r, ns[k]? = some r := ⟨_, List.getElem?_eq_getElem (by rw [← HN.out]; exact hlt)⟩
      obtain ⟨b0, o0, rfl, hat⟩ := HRD.out k x hx
      have r1 := Lib.hid (run_loadL isAgg41 size41 (cNd_len x) (hat.below hb.out))
      have HPX := Lib.hid (fun w2 (h : Below w.heap.size w w2) => HPH.out x (List.mem_of_getElem? hx) w2 h)
      have hok := HOK.out x (List.mem_of_getElem? hx)
      have HS := Lib.hid (take_snoc hx)
      obtain ⟨xi⟩ := x
      obtain ⟨m, hm⟩ : ∃ m : Nat, xi = (m : Int) := ⟨xi.toNat, by simp only [oks, Bool.and_eq_true, decide_eq_true_eq] at hok; omega⟩
      subst hm
      have hm8 : m < 128 := by simp only [oks, Bool.and_eq_true, decide_eq_true_eq] at hok; omega
      obtain ⟨s, hs⟩ : ∃ s, s = chooseB p (0, 0) (ns.take k) := ⟨_, rfl⟩
      rw [← hs] at k2
      have HSS := Lib.hid hs
      obtain ⟨b, hpb⟩ : ∃ b, b = p (m : Int) := ⟨_, rfl⟩
      rw [← hpb] at HPX
      have HPB := Lib.hid hpb
      have HW := Lib.hid (fun w2 => With_ok s m hm8 w2)
      unfold bV at HW
      clear hx hat hok hs hpb
      go_wp2_with (first | (refine wpList_loadL rfl 41 (.tmp 13) rfl b0 (o0 + k * 3) (.agg #[.int .i64 m, .bool false, .complex .f64 0 0]) rfl r1.out ?_) | (refine wpList_storeN rfl 41 (.tmp 7) (.tmp 14) rfl rfl wr.heap.size #[.int .i64 m, .bool false, .complex .f64 0 0] rfl rfl 41 _ (heap_at rfl) info41s rfl (by simp [Value.oneCell']) ?_; intro w3 hz3 hb3 hn3 hs3; have b3 := below_storeA hb3; have y0 : w3.cell? ⟨wr.heap.size, 0, none⟩ = some (.int .i64 m) := (by rw [cell_of_row _ _ 0 _ _ _ hz3]; rfl); have B3 := Lib.hid (bthen hb.out b3); have K13 := Lib.hid (heap_keep b3 k1.out); have K23 := Lib.hid (heap_keep b3 k2.out); clear hz3 hb3 hn3 hs3 b3))
      with_reducible refine (HPX.out _ B3.out).mono ?_
      rintro e w4 ⟨rfl, hb4⟩
      have B4 := Lib.hid (bthen B3.out hb4)
      have K14 := Lib.hid (heap_keep hb4 K13.out)
      have K24 := Lib.hid (heap_keep hb4 K23.out)
      have y4 := bcell hb4 y0
      clear hb4 y0 B3 K13 K23 r1 hb k1 k2 HPX
      cases b with
      | true =>
        have HE : Hid (chooseB p (0, 0) (ns.take (k + 1)) = withB s m) := Lib.hid (by rw [HS.out, chooseB_snoc, ← HSS.out, if_pos (by rw [← HPB.out])]; rfl)
        go_wp2_with (first | (refine wpList_loadL rfl 25 (.tmp 5) rfl (z + 1 + 1) 0 (.agg #[.int .u64 s.1, .int .u64 s.2]) rfl (ldB K24.out) ?_))
        with_reducible refine (HW.out _).mono ?_
        rintro e w5 ⟨rfl, hb5⟩
        have B5 := Lib.hid (bthen B4.out hb5)
        have K15 := Lib.hid (heap_keep hb5 K14.out)
        have K25 := Lib.hid (heap_keep hb5 K24.out)
        clear hb5 y4 B4 K14 K24
        go_wp2_with (first | (refine wpList_storeN rfl 25 (.tmp 5) (.tmp 24) rfl rfl (z + 1 + 1) (bCs (withB s m)) rfl rfl 25 _ K25.out info25s rfl (by simp [Value.oneCell', bCs]) ?_; intro w9 hz9 hb9 hn9 hs9; have Z9 := Lib.hid hz9; have D9 := Lib.hid (B5.out.trans (hb9 _ (by have := HZ.out; omega))); have K19 := Lib.hid ((hn9 (z + 1) (by omega)).trans K15.out); clear hz9 hb9 hn9 hs9))
        go_roundw
        case rel => exact ⟨k + 1, by omega, by go_num, D9, K19, by rw [HE.out]; exact Z9⟩
        case measure => simp [intOf]; omega
      | false =>
        have HE : Hid (chooseB p (0, 0) (ns.take (k + 1)) = s) := Lib.hid (by rw [HS.out, chooseB_snoc, ← HSS.out, if_neg (by rw [← HPB.out]; simp)])
        go_wp2_with fail
        go_roundw
        case rel => exact ⟨k + 1, by omega, by go_num, B4, K14, by rw [HE.out]; exact K24⟩
        case measure => simp [intOf]; omega
    · have hkn : k = n := by omega
      have hkf : ¬ ((k : Int) < (n : Int)) := by omega
      obtain ⟨s, hs⟩ : ∃ s, s = chooseB p (0, 0) (ns.take k) := ⟨_, rfl⟩
      rw [← hs] at k2
      have HF : Hid (chooseB p (0, 0) ns = s) := Lib.hid (by rw [hs, List.take_of_length_le (by rw [hkn]; exact Nat.le_of_eq HN.out.symm)])
      clear hs hkn
      go_wp2_with (first | (refine wpList_loadL rfl 25 (.tmp 5) rfl (z + 1 + 1) 0 (.agg #[.int .u64 s.1, .int .u64 s.2]) rfl (ldB k2.out) ?_) | (refine wpList_storeN rfl 25 (.tmp 4) (.tmp 27) rfl rfl (z + 1) (bCs s) rfl rfl 25 _ k1.out info25s rfl (by simp [Value.oneCell', bCs]) ?_; intro w9 hz9 hb9 hn9 hs9; have Z9 := Lib.hid hz9; have D9 := Lib.hid (hb.out.trans (hb9 _ (by have := HZ.out; omega))); clear hz9 hb9 hn9 hs9))
      refine bodyPost_ret (results_cell1 rfl rfl (ldB Z9.out)) rfl ?_
      exact ⟨by rw [HF.out], D9.out⟩
set_option maxRecDepth 100000 in
set_option maxHeartbeats 8000000 in
theorem choose50_ok (c0 c1 c2 c3 c4 : Value) (p : Int → Bool) (ns : List Nd) (ls : List Lk) (va vb vc : Value) (w : World) (g : GX w va vb vc ns ls)
    (HP : ∀ x ∈ ns, ∀ w2, Below w.heap.size w w2 → Calls Try.prog 50 #[.int .i64 x.i, c0, c1, c2, c3, c4] w2 fun e w' => e = .returned (.bool (p x.i)) ∧ Below w2.heap.size w2 w') :
    Calls Try.prog 21 #[.agg #[va, vb, vc], .func (.func 50) #[] #[c0, c1, c2, c3, c4]] w fun e w' => e = .returned (bV (chooseB p (0, 0) ns)) ∧ Below w.heap.size w w' := by
  have HPH := Lib.hid HP
  have HOK : Hid (∀ x ∈ ns, oks x.i = true) := Lib.hid fun x hm => by
    obtain ⟨i, hi⟩ := List.mem_iff_getElem?.1 hm
    have a1 := rng_of (g.snd.nr i x hi)
    simp only [oks, Bool.and_eq_true, decide_eq_true_eq]
    omega
  have hn0 := g.len
  obtain ⟨A, ca, rfl, hrd, -⟩ := g.sa
  obtain ⟨n, hn⟩ : ∃ n, n = ns.length := ⟨_, rfl⟩
  rw [← hn] at hn0 ⊢
  have HN := Lib.hid hn
  have HRD := Lib.hid hrd
  obtain ⟨z, hz⟩ : ∃ z, z = w.heap.size := ⟨_, rfl⟩
  have b1 : Below w.heap.size w (((w.alloc (.cells #[.slice A n ca, vb, vc] 33)).alloc (.cells #[.int .u64 0, .int .u64 0] 25)).alloc (.cells #[.int .u64 0, .int .u64 0] 25)) := (((Below.refl _ _).alloc (Nat.le_refl _) _).alloc (by simp) _).alloc (by simp; omega) _
  have k0 : (((w.alloc (.cells #[.slice A n ca, vb, vc] 33)).alloc (.cells #[.int .u64 0, .int .u64 0] 25)).alloc (.cells #[.int .u64 0, .int .u64 0] 25)).heap[z]? = some (.cells #[.slice A n ca, vb, vc] 33 (0, 0)) := heap_keep ((Below.refl _ _).alloc (Nat.le_refl _) _) (heap_keep ((Below.refl _ _).alloc (Nat.le_refl _) _) (heap_at hz))
  have k1 : (((w.alloc (.cells #[.slice A n ca, vb, vc] 33)).alloc (.cells #[.int .u64 0, .int .u64 0] 25)).alloc (.cells #[.int .u64 0, .int .u64 0] 25)).heap[z + 1]? = some (.cells (bCs (0, 0)) 25 (0, 0)) := heap_keep ((Below.refl _ _).alloc (Nat.le_refl _) _) (heap_at (by rw [hz]; simp))
  have k2 : (((w.alloc (.cells #[.slice A n ca, vb, vc] 33)).alloc (.cells #[.int .u64 0, .int .u64 0] 25)).alloc (.cells #[.int .u64 0, .int .u64 0] 25)).heap[z + 1 + 1]? = some (.cells (bCs (0, 0)) 25 (0, 0)) := heap_at (by rw [hz]; simp)
  have HZ := Lib.hid hz
  clear hrd g hn HP
  go_enter Try.func21, Try.ntmps21
  go_wp2_with fail
  rw [← hz]
  clear hz
  generalize (((w.alloc (.cells #[.slice A n ca, vb, vc] 33)).alloc (.cells #[.int .u64 0, .int .u64 0] 25)).alloc (.cells #[.int .u64 0, .int .u64 0] 25)) = wa at *
  have BA := Lib.hid b1
  have K1 := Lib.hid k1
  have K2 := Lib.hid k2
  have q0 : wa.cell? ⟨z, 0, none⟩ = some (.slice A n ca) := by rw [cell_of_row _ _ 0 _ _ _ k0]; rfl
  clear b1 k0 k1 k2
  go_wp2_with fail
  clear q0
  go_loopw [11] (fun i wr => ∃ k : Nat, k ≤ n ∧ i = .int .i64 k ∧ Hid (Below w.heap.size w wr) ∧ Hid (wr.heap[z + 1]? = some (.cells (bCs (0, 0)) 25 (0, 0))) ∧ Hid (wr.heap[z + 1 + 1]? = some (.cells (bCs (chooseB p (0, 0) (ns.take k))) 25 (0, 0)))) (fun i _ => n - (intOf i).toNat)
  case atStart => exact ⟨0, Nat.zero_le _, rfl, BA, K1, K2⟩
  case round =>
    clear BA K1 K2
    obtain ⟨k, hk, rfl, hb, k1, k2⟩ := hrel
    by_cases hlt : k < n
    · have hwk1 : IntKind.i64.wrap ((k : Int) + 1) = (k : Int) + 1 := by rw [IntKind.wrap_i64]; omega
      have hk0 : (0 : Int) ≤ (k : Int) := by omega
      have hkn : (k : Int) < (n : Int) := by omega
      obtain ⟨x, hx⟩ : ∃ r, ns[k]? = some r := ⟨_, List.getElem?_eq_getElem (by rw [← HN.out]; exact hlt)⟩
      obtain ⟨b0, o0, rfl, hat⟩ := HRD.out k x hx
      have r1 := Lib.hid (run_loadL isAgg41 size41 (cNd_len x) (hat.below hb.out))
      have HPX := Lib.hid (fun w2 (h : Below w.heap.size w w2) => HPH.out x (List.mem_of_getElem? hx) w2 h)
      have hok := HOK.out x (List.mem_of_getElem? hx)
      have HS := Lib.hid (take_snoc hx)
      obtain ⟨xi⟩ := x
      obtain ⟨m, hm⟩ : ∃ m : Nat, xi = (m : Int) := ⟨xi.toNat, by simp only [oks, Bool.and_eq_true, decide_eq_true_eq] at hok; omega⟩
      subst hm
      have hm8 : m < 128 := by simp only [oks, Bool.and_eq_true, decide_eq_true_eq] at hok; omega
      obtain ⟨s, hs⟩ : ∃ s, s = chooseB p (0, 0) (ns.take k) := ⟨_, rfl⟩
      rw [← hs] at k2
      have HSS := Lib.hid hs
      obtain ⟨b, hpb⟩ : ∃ b, b = p (m : Int) := ⟨_, rfl⟩
      rw [← hpb] at HPX
      have HPB := Lib.hid hpb
      have HW := Lib.hid (fun w2 => With_ok s m hm8 w2)
      unfold bV at HW
      clear hx hat hok hs hpb
      go_wp2_with (first | (refine wpList_loadL rfl 41 (.tmp 13) rfl b0 (o0 + k * 3) (.agg #[.int .i64 m, .bool false, .complex .f64 0 0]) rfl r1.out ?_) | (refine wpList_storeN rfl 41 (.tmp 7) (.tmp 14) rfl rfl wr.heap.size #[.int .i64 m, .bool false, .complex .f64 0 0] rfl rfl 41 _ (heap_at rfl) info41s rfl (by simp [Value.oneCell']) ?_; intro w3 hz3 hb3 hn3 hs3; have b3 := below_storeA hb3; have y0 : w3.cell? ⟨wr.heap.size, 0, none⟩ = some (.int .i64 m) := (by rw [cell_of_row _ _ 0 _ _ _ hz3]; rfl); have B3 := Lib.hid (bthen hb.out b3); have K13 := Lib.hid (heap_keep b3 k1.out); have K23 := Lib.hid (heap_keep b3 k2.out); clear hz3 hb3 hn3 hs3 b3))
      with_reducible refine (HPX.out _ B3.out).mono ?_
      rintro e w4 ⟨rfl, hb4⟩
      have B4 := Lib.hid (bthen B3.out hb4)
      have K14 := Lib.hid (heap_keep hb4 K13.out)
      have K24 := Lib.hid (heap_keep hb4 K23.out)
      have y4 := bcell hb4 y0
      clear hb4 y0 B3 K13 K23 r1 hb k1 k2 HPX
      cases b with
      | true =>
        have HE : Hid (chooseB p (0, 0) (ns.take (k + 1)) = withB s m) := Lib.hid (by rw [HS.out, chooseB_snoc, ← HSS.out, if_pos (by rw [← HPB.out])]; rfl)
        go_wp2_with (first | (refine wpList_loadL rfl 25 (.tmp 5) rfl (z + 1 + 1) 0 (.agg #[.int .u64 s.1, .int .u64 s.2]) rfl (ldB K24.out) ?_))
        with_reducible refine (HW.out _).mono ?_
        rintro e w5 ⟨rfl, hb5⟩
        have B5 := Lib.hid (bthen B4.out hb5)
        have K15 := Lib.hid (heap_keep hb5 K14.out)
        have K25 := Lib.hid (heap_keep hb5 K24.out)
        clear hb5 y4 B4 K14 K24
        go_wp2_with (first | (refine wpList_storeN rfl 25 (.tmp 5) (.tmp 24) rfl rfl (z + 1 + 1) (bCs (withB s m)) rfl rfl 25 _ K25.out info25s rfl (by simp [Value.oneCell', bCs]) ?_; intro w9 hz9 hb9 hn9 hs9; have Z9 := Lib.hid hz9; have D9 := Lib.hid (B5.out.trans (hb9 _ (by have := HZ.out; omega))); have K19 := Lib.hid ((hn9 (z + 1) (by omega)).trans K15.out); clear hz9 hb9 hn9 hs9))
        go_roundw
        case rel => exact ⟨k + 1, by omega, by go_num, D9, K19, by rw [HE.out]; exact Z9⟩
        case measure => simp [intOf]; omega
      | false =>
        have HE : Hid (chooseB p (0, 0) (ns.take (k + 1)) = s) := Lib.hid (by rw [HS.out, chooseB_snoc, ← HSS.out, if_neg (by rw [← HPB.out]; simp)])
        go_wp2_with fail
        go_roundw
        case rel => exact ⟨k + 1, by omega, by go_num, B4, K14, by rw [HE.out]; exact K24⟩
        case measure => simp [intOf]; omega
    · have hkn : k = n := by omega
      have hkf : ¬ ((k : Int) < (n : Int)) := by omega
      obtain ⟨s, hs⟩ : ∃ s, s = chooseB p (0, 0) (ns.take k) := ⟨_, rfl⟩
      rw [← hs] at k2
      have HF : Hid (chooseB p (0, 0) ns = s) := Lib.hid (by rw [hs, List.take_of_length_le (by rw [hkn]; exact Nat.le_of_eq HN.out.symm)])
      clear hs hkn
      go_wp2_with (first | (refine wpList_loadL rfl 25 (.tmp 5) rfl (z + 1 + 1) 0 (.agg #[.int .u64 s.1, .int .u64 s.2]) rfl (ldB k2.out) ?_) | (refine wpList_storeN rfl 25 (.tmp 4) (.tmp 27) rfl rfl (z + 1) (bCs s) rfl rfl 25 _ k1.out info25s rfl (by simp [Value.oneCell', bCs]) ?_; intro w9 hz9 hb9 hn9 hs9; have Z9 := Lib.hid hz9; have D9 := Lib.hid (hb.out.trans (hb9 _ (by have := HZ.out; omega))); clear hz9 hb9 hn9 hs9))
      refine bodyPost_ret (results_cell1 rfl rfl (ldB Z9.out)) rfl ?_
      exact ⟨by rw [HF.out], D9.out⟩
set_option maxRecDepth 100000 in
set_option maxHeartbeats 8000000 in
theorem choose22_ok (c0 c1 c2 c3 c4 : Value) (p : Int → Bool) (ns : List Nd) (ls : List Lk) (va vb vc : Value) (w : World) (g : GX w va vb vc ns ls)
    (HP : ∀ x ∈ ns, ∀ w2, Below w.heap.size w w2 → Calls Try.prog 22 #[.int .i64 x.i, c0, c1, c2, c3, c4] w2 fun e w' => e = .returned (.bool (p x.i)) ∧ Below w2.heap.size w2 w') :
    Calls Try.prog 21 #[.agg #[va, vb, vc], .func (.func 22) #[] #[c0, c1, c2, c3, c4]] w fun e w' => e = .returned (bV (chooseB p (0, 0) ns)) ∧ Below w.heap.size w w' := by
  have HPH := Lib.hid HP
  have HOK : Hid (∀ x ∈ ns, oks x.i = true) := Lib.hid fun x hm => by
    obtain ⟨i, hi⟩ := List.mem_iff_getElem?.1 hm
    have a1 := rng_of (g.snd.nr i x hi)
    simp only [oks, Bool.and_eq_true, decide_eq_true_eq]
    omega
  have hn0 := g.len
  obtain ⟨A, ca, rfl, hrd, -⟩ := g.sa
  obtain ⟨n, hn⟩ : ∃ n, n = ns.length := ⟨_, rfl⟩
  rw [← hn] at hn0 ⊢
  have HN := Lib.hid hn
  have HRD := Lib.hid hrd
  obtain ⟨z, hz⟩ : ∃ z, z = w.heap.size := ⟨_, rfl⟩
  have b1 : Below w.heap.size w (((w.alloc (.cells #[.slice A n ca, vb, vc] 33)).alloc (.cells #[.int .u64 0, .int .u64 0] 25)).alloc (.cells #[.int .u64 0, .int .u64 0] 25)) := (((Below.refl _ _).alloc (Nat.le_refl _) _).alloc (by simp) _).alloc (by simp; omega) _
  have k0 : (((w.alloc (.cells #[.slice A n ca, vb, vc] 33)).alloc (.cells #[.int .u64 0, .int .u64 0] 25)).alloc (.cells #[.int .u64 0, .int .u64 0] 25)).heap[z]? = some (.cells #[.slice A n ca, vb, vc] 33 (0, 0)) := heap_keep ((Below.refl _ _).alloc (Nat.le_refl _) _) (heap_keep ((Below.refl _ _).alloc (Nat.le_refl _) _) (heap_at hz))
  have k1 : (((w.alloc (.cells #[.slice A n ca, vb, vc] 33)).alloc (.cells #[.int .u64 0, .int .u64 0] 25)).alloc (.cells #[.int .u64 0, .int .u64 0] 25)).heap[z + 1]? = some (.cells (bCs (0, 0)) 25 (0, 0)) := heap_keep ((Below.refl _ _).alloc (Nat.le_refl _) _) (heap_at (by rw [hz]; simp))
  have k2 : (((w.alloc (.cells #[.slice A n ca, vb, vc] 33)).alloc (.cells #[.int .u64 0, .int .u64 0] 25)).alloc (.cells #[.int .u64 0, .int .u64 0] 25)).heap[z + 1 + 1]? = some (.cells (bCs (0, 0)) 25 (0, 0)) := heap_at (by rw [hz]; simp)
  have HZ := Lib.hid hz
  clear hrd g hn HP
  go_enter Try.func21, Try.ntmps21
  go_wp2_with fail
  rw [← hz]
  clear hz
  generalize (((w.alloc (.cells #[.slice A n ca, vb, vc] 33)).alloc (.cells #[.int .u64 0, .int .u64 0] 25)).alloc (.cells #[.int .u64 0, .int .u64 0] 25)) = wa at *
  have BA := Lib.hid b1
  have K1 := Lib.hid k1
  have K2 := Lib.hid k2
  have q0 : wa.cell? ⟨z, 0, none⟩ = some (.slice A n ca) := by rw [cell_of_row _ _ 0 _ _ _ k0]; rfl
  clear b1 k0 k1 k2
  go_wp2_with fail
  clear q0
  go_loopw [11] (fun i wr => ∃ k : Nat, k ≤ n ∧ i = .int .i64 k ∧ Hid (Below w.heap.size w wr) ∧ Hid (wr.heap[z + 1]? = some (.cells (bCs (0, 0)) 25 (0, 0))) ∧ Hid (wr.heap[z + 1 + 1]? = some (.cells (bCs (chooseB p (0, 0) (ns.take k))) 25 (0, 0)))) (fun i _ => n - (intOf i).toNat)
  case atStart => exact ⟨0, Nat.zero_le _, rfl, BA, K1, K2⟩
  case round =>
    clear BA K1 K2
    obtain ⟨k, hk, rfl, hb, k1, k2⟩ := hrel
    by_cases hlt : k < n
    · have hwk1 : IntKind.i64.wrap ((k : Int) + 1) = (k : Int) + 1 := by rw [IntKind.wrap_i64]; omega
      have hk0 : (0 : Int) ≤ (k : Int) := by omega
      have hkn : (k : Int) < (n : Int) := by omega
      obtain ⟨x, hx⟩ : ∃ r, ns[k]? = some r := ⟨_, List.getElem?_eq_getElem (by rw [← HN.out]; exact hlt)⟩
      obtain ⟨b0, o0, rfl, hat⟩ := HRD.out k x hx
      have r1 := Lib.hid (run_loadL isAgg41 size41 (cNd_len x) (hat.below hb.out))
      have HPX := Lib.hid (fun w2 (h : Below w.heap.size w w2) => HPH.out x (List.mem_of_getElem? hx) w2 h)
      have hok := HOK.out x (List.mem_of_getElem? hx)
      have HS := Lib.hid (take_snoc hx)
      obtain ⟨xi⟩ := x
      obtain ⟨m, hm⟩ : ∃ m : Nat, xi = (m : Int) := ⟨xi.toNat, by simp only [oks, Bool.and_eq_true, decide_eq_true_eq] at hok; omega⟩
      subst hm
      have hm8 : m < 128 := by simp only [oks, Bool.and_eq_true, decide_eq_true_eq] at hok; omega
      obtain ⟨s, hs⟩ : ∃ s, s = chooseB p (0, 0) (ns.take k) := ⟨_, rfl⟩
      rw [← hs] at k2
      have HSS := Lib.hid hs
      obtain ⟨b, hpb⟩ : ∃ b, b = p (m : Int) := ⟨_, rfl⟩
      rw [← hpb] at HPX
      have HPB := Lib.hid hpb
      have HW := Lib.hid (fun w2 => With_ok s m hm8 w2)
      unfold bV at HW
      clear hx hat hok hs hpb
      go_wp2_with (first | (refine wpList_loadL rfl 41 (.tmp 13) rfl b0 (o0 + k * 3) (.agg #[.int .i64 m, .bool false, .complex .f64 0 0]) rfl r1.out ?_) | (refine wpList_storeN rfl 41 (.tmp 7) (.tmp 14) rfl rfl wr.heap.size #[.int .i64 m, .bool false, .complex .f64 0 0] rfl rfl 41 _ (heap_at rfl) info41s rfl (by simp [Value.oneCell']) ?_; intro w3 hz3 hb3 hn3 hs3; have b3 := below_storeA hb3; have y0 : w3.cell? ⟨wr.heap.size, 0, none⟩ = some (.int .i64 m) := (by rw [cell_of_row _ _ 0 _ _ _ hz3]; rfl); have B3 := Lib.hid (bthen hb.out b3); have K13 := Lib.hid (heap_keep b3 k1.out); have K23 := Lib.hid (heap_keep b3 k2.out); clear hz3 hb3 hn3 hs3 b3))
      with_reducible refine (HPX.out _ B3.out).mono ?_
      rintro e w4 ⟨rfl, hb4⟩
      have B4 := Lib.hid (bthen B3.out hb4)
      have K14 := Lib.hid (heap_keep hb4 K13.out)
      have K24 := Lib.hid (heap_keep hb4 K23.out)
      have y4 := bcell hb4 y0
      clear hb4 y0 B3 K13 K23 r1 hb k1 k2 HPX
      cases b with
      | true =>
        have HE : Hid (chooseB p (0, 0) (ns.take (k + 1)) = withB s m) := Lib.hid (by rw [HS.out, chooseB_snoc, ← HSS.out, if_pos (by rw [← HPB.out])]; rfl)
        go_wp2_with (first | (refine wpList_loadL rfl 25 (.tmp 5) rfl (z + 1 + 1) 0 (.agg #[.int .u64 s.1, .int .u64 s.2]) rfl (ldB K24.out) ?_))
        with_reducible refine (HW.out _).mono ?_
        rintro e w5 ⟨rfl, hb5⟩
        have B5 := Lib.hid (bthen B4.out hb5)
        have K15 := Lib.hid (heap_keep hb5 K14.out)
        have K25 := Lib.hid (heap_keep hb5 K24.out)
        clear hb5 y4 B4 K14 K24
        go_wp2_with (first | (refine wpList_storeN rfl 25 (.tmp 5) (.tmp 24) rfl rfl (z + 1 + 1) (bCs (withB s m)) rfl rfl 25 _ K25.out info25s rfl (by simp [Value.oneCell', bCs]) ?_; intro w9 hz9 hb9 hn9 hs9; have Z9 := Lib.hid hz9; have D9 := Lib.hid (B5.out.trans (hb9 _ (by have := HZ.out; omega))); have K19 := Lib.hid ((hn9 (z + 1) (by omega)).trans K15.out); clear hz9 hb9 hn9 hs9))
        go_roundw
        case rel => exact ⟨k + 1, by omega, by go_num, D9, K19, by rw [HE.out]; exact Z9⟩
        case measure => simp [intOf]; omega
      | false =>
        have HE : Hid (chooseB p (0, 0) (ns.take (k + 1)) = s) := Lib.hid (by rw [HS.out, chooseB_snoc, ← HSS.out, if_neg (by rw [← HPB.out]; simp)])
        go_wp2_with fail
        go_roundw
        case rel => exact ⟨k + 1, by omega, by go_num, B4, K14, by rw [HE.out]; exact K24⟩
        case measure => simp [intOf]; omega
    · have hkn : k = n := by omega
      have hkf : ¬ ((k : Int) < (n : Int)) := by omega
      obtain ⟨s, hs⟩ : ∃ s, s = chooseB p (0, 0) (ns.take k) := ⟨_, rfl⟩
      rw [← hs] at k2
      have HF : Hid (chooseB p (0, 0) ns = s) := Lib.hid (by rw [hs, List.take_of_length_le (by rw [hkn]; exact Nat.le_of_eq HN.out.symm)])
      clear hs hkn
      go_wp2_with (first | (refine wpList_loadL rfl 25 (.tmp 5) rfl (z + 1 + 1) 0 (.agg #[.int .u64 s.1, .int .u64 s.2]) rfl (ldB k2.out) ?_) | (refine wpList_storeN rfl 25 (.tmp 4) (.tmp 27) rfl rfl (z + 1) (bCs s) rfl rfl 25 _ k1.out info25s rfl (by simp [Value.oneCell', bCs]) ?_; intro w9 hz9 hb9 hn9 hs9; have Z9 := Lib.hid hz9; have D9 := Lib.hid (hb.out.trans (hb9 _ (by have := HZ.out; omega))); clear hz9 hb9 hn9 hs9))
      refine bodyPost_ret (results_cell1 rfl rfl (ldB Z9.out)) rfl ?_
      exact ⟨by rw [HF.out], D9.out⟩

end Go.Proofs.Ytpklcefiabjplaa
