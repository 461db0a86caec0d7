/- dual.Front of a sound graph; conditions as stated. -/
import Derived.Test.YtpklcefiabjplaaR20
namespace Go.Proofs.Ytpklcefiabjplaa
open Go.ChangeShapes Go.WideShapes Go.ChangeAt Go.RowKit
set_option linter.unusedVariables false
set_option linter.unusedSimpArgs false
attribute [local go_sem] Og.Opt Og.OpY

attribute [local go_sem] Og.Opt Og.OpY

def v128 : List Value := List.replicate 128 (.slice none 0 0)
def f128 : List (List (Nat × Nat)) := List.replicate 128 []
theorem f128_FS : FS f128 := fun j f h => by
  unfold f128 at h
  rw [List.getElem?_replicate] at h
  split at h
  · cases h; exact ⟨by simp, fun p hp => by cases hp⟩
  · cases h
theorem Fx.zero {F E : Nat} {w : World} (fe : F < E) (hF : w.heap[F]? = some (.cells v128.toArray 88 (0, 0))) (hE : w.heap[E]? = some (.cells #[.int .i64 0] 26 (0, 0))) : Fx F E w v128 f128 0 := by
  have hv : ∀ (j : Nat) (v : Value), v128[j]? = some v → v = .slice none 0 0 := fun j v hj => by
    unfold v128 at hj
    rw [List.getElem?_replicate] at hj
    split at hj <;> simp_all
  refine ⟨fe, hF, hE, List.length_replicate, List.length_replicate, fun j v f hj hx => ?_, fun i j v u _ hi _ => .inl (by rw [hv i v hi]; rfl)⟩
  rw [hv j v hj]
  have : f = [] := by
    unfold f128 at hx
    rw [List.getElem?_replicate] at hx
    split at hx <;> simp_all
  subst this
  exact World.ownsRow_nil _ _ _ _
set_option maxRecDepth 100000 in
set_option maxHeartbeats 8000000 in
theorem Front_ok (a b : Int) (ka kb fuel : Nat) (ns : List Nd) (ls : List Lk) (va vb vc : Value) (ds : List Int) (res : List (List (Nat × Nat))) (er : Int) (fb0 : List (Nat × Nat)) (w : World) (g : GX w va vb vc ns ls) (hka : ns[ka]? = some ⟨a⟩) (hkb : ns[kb]? = some ⟨b⟩) (ht : treeP (viewL ls) a = some ds) (hw : walkP (viewL ls) fuel [⟨0, 0, a⟩] f128 0 = some (res, er)) (hb : res[b.toNat]? = some fb0) :
    Calls Try.prog 15 #[.agg #[va, vb, vc], .int .i64 a, .int .i64 b] w fun e w' => (∃ v, e = .returned (.tuple #[v, .int .i64 er]) ∧ ((er ≠ 0 ∧ v = .slice none 0 0) ∨ (er = 0 ∧ ∃ A c, v = .slice A fb0.length c ∧ Rd cPr 1 w' A fb0))) ∧ Below w.heap.size w w' := by
  have hob := oks_rng (g.rng hkb)
  have HD := Lib.hid (fun w2 (g : GX w2 va vb vc ns ls) => Dist_ok a b ka kb ns ls va vb vc ds w2 g hka hkb ht)
  have HWK := Lib.hid (fun F E vs w2 (g : GX w2 va vb vc ns ls) (H : Fx F E w2 vs f128 0) => walk_ok F E a fuel ns ls va vb vc vs f128 res 0 er w2 g H f128_FS (oks_rng (g.rng hka)) hw)
  have GG := Lib.hid g
  simp only [oks, Bool.and_eq_true, decide_eq_true_eq] at hob
  obtain ⟨m, rfl⟩ : ∃ m : Nat, b = (m : Int) := ⟨b.toNat, by omega⟩
  rw [Int.toNat_natCast] at hb
  have HB := Lib.hid hb
  have hm0 : (0 : Int) ≤ (m : Int) := by omega
  have hm1 : (m : Int) < 128 := by omega
  have ba : Below w.heap.size w (w.alloc (.cells #[va, vb, vc] 33)) := (Below.refl _ _).alloc (Nat.le_refl _) _
  have q0 : ∀ j u, [va, vb, vc][j]? = some u → (w.alloc (.cells #[va, vb, vc] 33)).cell? ⟨w.heap.size, j, none⟩ = some u := fun j u hu => by
    rw [cell_of_row _ _ j _ _ _ (heap_at rfl)]; simpa using hu
  have d0 := q0 0 _ rfl
  have d1 := q0 1 _ rfl
  have d2 := q0 2 _ rfl
  have BA := Lib.hid ba
  clear q0 ba g hka hkb ht hw hb hob
  go_enter Try.func15, Try.ntmps15
  generalize hW : w.alloc (.cells #[va, vb, vc] 33) = wa at *
  go_wp2_with fail
  with_reducible refine (HD.out _ (GG.out.below BA.out)).mono ?_
  rintro e wb ⟨⟨z, rfl⟩, hb⟩
  have BB := Lib.hid (bthen BA.out hb)
  have e0 := bcell hb d0
  have e1 := bcell hb d1
  have e2 := bcell hb d2
  clear hb d0 d1 d2 hW HD
  have b2 : Below wb.heap.size wb ((wb.alloc (.cells Try.zeroCells88 88)).alloc (.cells #[.int .i64 0] 26)) := ((Below.refl _ _).alloc (Nat.le_refl _) _).alloc (by simp) _
  have kF : ((wb.alloc (.cells Try.zeroCells88 88)).alloc (.cells #[.int .i64 0] 26)).heap[wb.heap.size]? = some (.cells Try.zeroCells88 88 (0, 0)) := heap_keep ((Below.refl _ _).alloc (Nat.le_refl _) _) (heap_at rfl)
  have kE : ((wb.alloc (.cells Try.zeroCells88 88)).alloc (.cells #[.int .i64 0] 26)).heap[wb.heap.size + 1]? = some (.cells #[.int .i64 0] 26 (0, 0)) := heap_at (by simp)
  have ez : Try.zeroCells88 = v128.toArray := by kernel_rfl
  obtain ⟨wc, hW2⟩ : ∃ wc, (wb.alloc (.cells Try.zeroCells88 88)).alloc (.cells #[.int .i64 0] 26) = wc := ⟨_, rfl⟩
  rw [hW2] at b2 kF kE
  rw [ez] at kF
  have FX0 := Lib.hid (Fx.zero (by omega : wb.heap.size < wb.heap.size + 1) kF kE)
  have BC := Lib.hid (bthen BB.out b2)
  have c0 := bcell b2 e0
  have c1 := bcell b2 e1
  have c2 := bcell b2 e2
  have qe0 : wc.cell? ⟨wb.heap.size + 1, 0, none⟩ = some (.int .i64 0) := by rw [cell_of_row wc _ 0 _ _ _ kE]; rfl
  have fz : wc.frozen? ⟨wb.heap.size + 1, 0, none⟩ = false := by simp [World.frozen?, kE]
  have hself : wc.setCell ⟨wb.heap.size + 1, 0, none⟩ (.int .i64 0) = wc := setCell_self kE qe0
  clear b2 kF kE ez e0 e1 e2
  go_wp2_with fail
  with_reducible refine (HWK.out _ _ _ _ (GG.out.below BC.out) FX0.out).mono ?_
  rintro e wd ⟨rfl, hbd, vs2, FX⟩
  clear qe0 fz hself
  have FX2 := Lib.hid FX
  have BD := Lib.hid (BC.out.trans (hbd.mono BB.out.size))
  have qe : wd.cell? ⟨wb.heap.size + 1, 0, none⟩ = some (.int .i64 er) := by rw [cell_of_row wd _ 0 _ _ _ FX.ek]; rfl
  obtain ⟨v, hv⟩ : ∃ v, vs2[m]? = some v := ⟨_, List.getElem?_eq_getElem (by rw [FX.nv]; omega)⟩
  have hown := FX.own m v fb0 hv HB.out
  obtain ⟨A, cc, hvl, hrd, -⟩ := Sl_of_row cPr_len (by omega) hown rfl
  have qs := FX.slot hv
  rw [hvl] at qs
  have RDX := Lib.hid hrd
  have HCE : ∀ w5, Below wd.heap.size wd w5 → w5.cell? ⟨wb.heap.size + 1, 0, none⟩ = some (.int .i64 er) := fun w5 h5 => bcell h5 qe
  clear FX hbd hv hown hvl hrd c0 c1 c2 hW2 HWK
  by_cases her : er = 0
  · subst her
    go_wp2_with fail
    go_ret2
    exact ⟨⟨_, rfl, A, ⟨cc, rfl⟩, RDX.out⟩, BD.out⟩
  · have hbq : (er == 0) = false := by simp; exact her
    go_wp2_with fail
    refine Og.walk_lit [[],[],[0,1]] (fun w2 => Below wd.heap.size wd w2) (fun w1 w2 => Below w1.heap.size w1 w2) (by kernel_rfl) (by kernel_rfl) (bdrew) ?_
    repeat (first | (refine Og.step_pure (fun _ => Below.refl _ _) ?_; apply Exists.intro; refine And.intro ?_ ?_; focus (intro vs w2 hC hk; have hm := HCE w2 hC; revert hk; simp only [Og.KS, Og.K0, Og.Is, List.getD_cons_zero, List.getD_cons_succ, List.getD_nil, List.contains_cons, List.contains_nil, Nat.reduceAdd, Nat.reduceBEq, Bool.or_false, Bool.false_or, Bool.or_true, Bool.true_or, Bool.false_eq_true, false_implies, true_implies, true_and, and_true, forall_const]; intros; go_simp; exact rfl)))
    intro vS w2 hC hk
    simp only [Og.KS, Og.K0, Og.Is, List.getD_cons_zero, List.getD_cons_succ, List.getD_nil, List.contains_cons, List.contains_nil, Nat.reduceAdd, Nat.reduceBEq, Bool.or_false, Bool.false_or, Bool.or_true, Bool.true_or, Bool.false_eq_true, false_implies, true_implies, true_and, and_true, forall_const] at hk
    simp only [hk, Act.put, List.setIfInBounds_toArray, List.set_cons_zero, List.set_cons_succ]
    have B2 := Lib.hid (bthen BD.out hC)
    have HER := Lib.hid her
    clear hk hC her
    go_wp2_with fail
    go_ret2
    exact ⟨⟨_, rfl, .inl ⟨HER.out, rfl⟩⟩, B2.out⟩

end Go.Proofs.Ytpklcefiabjplaa
