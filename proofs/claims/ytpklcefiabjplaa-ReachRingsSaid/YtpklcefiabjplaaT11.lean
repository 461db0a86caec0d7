/- The reference: Relay; conditions as stated. -/
import Derived.Test.YtpklcefiabjplaaT10
import Derived.Maps.AppendAt
namespace Go.Proofs.Ytpklcefiabjplaa
open Go.ChangeShapes Go.WideShapes Go.ChangeAt Go.RowKit
set_option linter.unusedVariables false
set_option linter.unusedSimpArgs false
attribute [local go_sem] Og.Opt Og.OpY

attribute [local go_sem] Og.Opt Og.OpY
/-- the same, and where the row lies -/
theorem wpList_appGat {α : Type} (f : α → List Value) (m sl ty by' : Nat) {z : Value} (hm : ∀ x, (f x).length = m) (h1 : ∀ x, ∀ u ∈ f x, u.oneCell' = true) (h0 : 0 < m)
    (hu : Try.prog.underlying sl = some (.slice ty)) (hinf : (Try.prog.info? ty).map (fun i => (i.zero, i.size, i.bytes)) = some (some z, m, by')) (hzs : z.cells.size = m) (hb : by' ≤ 32)
    {ops : Array Oper} {rest : List Oper} {o : Oper} {a : Act} {w : World} {Q : Exit → Act → World → Prop} (hgd : o.guard = none) (s x : Operand) (ho : o.op = .call { callee := .builtin .append, args := #[s, x], argTypes := #[sl, sl] })
    (base g : Nat) (v : Value) (pre : List α) (r : α) (hs : a.eval s = v) (hx : a.eval x = .slice (some ⟨g, 0, none⟩) 1 1) (hown : w.ownsRow base ty m v pre.length (pre.flatMap f)) (hg : w.heap[g]? = some (.cells (f r).toArray ty (0, 0))) (hl : pre.length ≤ 1172812402926) (hbase : base ≤ w.heap.size)
    (h : ∀ v' w', w'.ownsRow base ty m v' (pre ++ [r]).length ((pre ++ [r]).flatMap f) → w.grownBy w' v.ownBlock → (v'.ownBlock = v.ownBlock ∨ v'.ownBlock = some w.heap.size) → wpList Try.prog ops Q rest (a.put o.dst v') w') : wpList Try.prog ops Q (o :: rest) a w := by
  obtain ⟨i, hi, hz', hsz, hby⟩ := info_parts hinf
  refine wpList_append_own_at w hgd s x sl ho base ty i _ m by' hu hi hz' hsz hby hzs h0 v pre.length (pre.flatMap f) hs hown ⟨g, 0, none⟩ 1 1 (f r) hx (by rw [hm, Nat.one_mul]) (news_heap hg) (h1 r) (by have := maxLen_ge; omega) ?_ hbase (fun v' w' h1 h2 _ h4 => h v' w' (snocG h1) h2 h4)
  have : (pre.length + 1) * by' ≤ 1172812402927 * 32 := Nat.mul_le_mul (by omega) hb
  omega
def relR (s A B : Nat) : List Nat := (listM (A &&& B)).filter fun n => decide (n ≠ s)
theorem AtL.grown {w w' : World} {b o : Nat} {cs : List Value} {row : Option Nat} (h : AtL w b o cs) (hg : w.grownBy w' row) (hne : row ≠ some b) : AtL w' b o cs := fun j v hv => by
  have hc := h j v hv
  have hlt := World.block_lt_of_cell? w ⟨b, o + j, none⟩ hc
  exact (World.cell?_of_block (a := ⟨b, o + j, none⟩) (hg.block b hlt (fun e => hne e.symm))).trans hc
theorem rd_grown {α : Type} {f : α → List Value} {m : Nat} {w w' : World} {A : Option Addr} {xs : List α} {row : Option Nat} (h : Rd f m w A xs) (hg : w.grownBy w' row) (hne : ∀ b o, A = some ⟨b, o, none⟩ → row ≠ some b) : Rd f m w' A xs := fun i x hi => by
  obtain ⟨b, o, hA, hat⟩ := h i x hi
  exact ⟨b, o, hA, hat.grown hg (hne b o hA)⟩
theorem app_ne {v v' : Value} {w : World} {ob : Obj} {b : Nat} (h1 : v.ownBlock ≠ some b) (h2 : b < w.heap.size) (hat : v'.ownBlock = v.ownBlock ∨ v'.ownBlock = some (w.alloc ob).heap.size) : v'.ownBlock ≠ some b := by
  rcases hat with e | e
  · rw [e]; exact h1
  · rw [e]
    intro h
    injection h with h
    simp at h
    omega
theorem filt_take {α : Type} {p : α → Bool} {xs : List α} {k : Nat} {x : α} (h : xs[k]? = some x) : (xs.take (k + 1)).filter p = (xs.take k).filter p ++ (if p x = true then [x] else []) := by
  rw [List.take_add_one, h, List.filter_append]
  congr 1
  cases hp : p x <;> simp [hp]
set_option maxRecDepth 100000 in
set_option maxHeartbeats 16000000 in
theorem rRelay_ok (s p0 : Nat) (ns : List Nd) (ls : List Lk) (va vb vc : Value) (w : World) (tk tk2 : Nat → Bool) (g : GX w va vb vc ns ls)
    (hns : ∃ x ∈ ns, x.i = (s : Int)) (hnp : ∃ x ∈ ns, x.i = (p0 : Int)) (hfl : ∃ l ∈ ls, l.f = (s : Int) ∧ l.t = (p0 : Int))
    (htk : ∀ n, n < 128 → (distR ns.length ls s).getD n 0 < 1073741824 → TkR (parsR (distR ns.length ls s) s ls 128) n s p0 (tk n))
    (htk2 : ∀ n : Nat, (∃ x ∈ ns, x.i = (n : Int)) → (distR ns.length ls n).getD p0 0 < 1073741824 → TkR (parsR (distR ns.length ls n) n ls 128) p0 s p0 (tk2 n)) :
    Calls Try.prog 8 #[.agg #[va, vb, vc], .int .i64 s, .int .i64 p0] w fun e w' => e = .returned (.tuple #[mV (ofM (relR s (ofM (lkP (nearR (distR ns.length ls s) tk) 128)) (ofM (farL (farR ns.length ls p0 tk2) ns)))), .int .i64 0]) ∧ Below w.heap.size w w' := by
  obtain ⟨kl, hkl⟩ : ∃ kl : Nat, fndL ls s p0 = (kl : Int) := ⟨(fndL ls s p0).toNat, by have := fndL_nn hfl; omega⟩
  have dkl : decide ((kl : Int) < 0) = false := decide_eq_false (by omega)
  have dkl2 : ¬ ((kl : Int) < 0) := by omega
  have HNO := Lib.hid (fun v w2 (g2 : GX w2 va vb vc ns ls) (h : Sl cI 1 0 w2 v [(s : Int), p0]) => rNodes_ok [(s : Int), p0] v ns ls va vb vc w2 g2 h (by simp) (by
    intro x hx
    simp only [List.mem_cons, List.not_mem_nil, or_false] at hx
    rcases hx with rfl | rfl
    · exact hns
    · exact hnp))
  have HFL : Hid (∀ w2 (g2 : GX w2 va vb vc ns ls), Calls Try.prog 25 #[.agg #[va, vb, vc], .int .i64 s, .int .i64 p0] w2 fun e w' => e = .returned (.int .i64 (kl : Int)) ∧ Below w2.heap.size w2 w') := Lib.hid (fun w2 g2 => by have := rFindLink_ok ns ls va vb vc s p0 w2 g2.sb (by have := g2.snd.ll; omega); rwa [hkl] at this)
  have HNR := Lib.hid (fun w2 (g2 : GX w2 va vb vc ns ls) => rNear_ok s s p0 ns ls va vb vc w2 tk g2 hns hns hnp hfl htk)
  have HFR := Lib.hid (fun w2 (g2 : GX w2 va vb vc ns ls) => rFar_ok p0 s p0 ns ls va vb vc w2 tk2 g2 hnp hns hnp hfl htk2)
  have HOV := Lib.hid (fun w2 (g2 : GX w2 va vb vc ns ls) (a : Int) => rOver_ok ns ls va vb vc a w2 g2.sa (by have := g2.len; omega))
  obtain ⟨A, hA⟩ : ∃ A, A = ofM (lkP (nearR (distR ns.length ls s) tk) 128) := ⟨_, rfl⟩
  obtain ⟨B, hB⟩ : ∃ B, B = ofM (farL (farR ns.length ls p0 tk2) ns) := ⟨_, rfl⟩
  rw [← hA] at HNR ⊢
  rw [← hB] at HFR ⊢
  have hA8 : A < 2 ^ 128 := by rw [hA]; exact ofM_lt fun x hx => lkP_lt hx
  have hB8 : B < 2 ^ 128 := by rw [hB]; exact ofM_lt fun x hx => farL_lt (gx_oks g).1 hx
  have HAND := Lib.hid (fun w2 => rAnd_ok A B hA8 hB8 w2)
  have hC8 : A &&& B < 2 ^ 128 := Nat.lt_of_le_of_lt Nat.and_le_left hA8
  have HLI := Lib.hid (fun w2 => rList_ok (A &&& B) hC8 w2)
  have HRR : Hid (∀ C, C = A &&& B → relR s A B = (listM C).filter fun n => decide (n ≠ s)) := Lib.hid (fun C hC => by rw [hC]; rfl)
  obtain ⟨L, hL⟩ : ∃ L, L = relR s A B := ⟨_, rfl⟩
  rw [← hL]
  have HL := Lib.hid hL
  obtain ⟨C, hC⟩ : ∃ C, C = A &&& B := ⟨_, rfl⟩
  rw [← hC] at HAND HLI
  have HLC : Hid (L = (listM C).filter fun n => decide (n ≠ s)) := Lib.hid (by rw [hL, HRR.out C hC])
  unfold mV at HNR HFR HAND HLI
  have GG := Lib.hid g
  have S8 : Hid (s < 128) := Lib.hid (by
    obtain ⟨x, hx, ex⟩ := hns
    have o1 := (gx_oks g).1 x hx
    simp only [oks, Bool.and_eq_true, decide_eq_true_eq] at o1
    omega)
  clear hns hnp hfl htk htk2 g hkl hA hB hA8 hB8 hC8 HRR hL HL hC
  obtain ⟨z, hz⟩ : ∃ z, z = w.heap.size := ⟨_, rfl⟩
  have b1 : Below w.heap.size w ((w.alloc (.cells #[va, vb, vc] 33)).alloc (.cells #[.int .u64 0, .int .u64 0] 25)) := ((Below.refl _ _).alloc (Nat.le_refl _) _).alloc (by simp) _
  have k4 : ((w.alloc (.cells #[va, vb, vc] 33)).alloc (.cells #[.int .u64 0, .int .u64 0] 25)).heap[z]? = some (.cells #[va, vb, vc] 33 (0, 0)) := heap_keep ((Below.refl _ _).alloc (Nat.le_refl _) _) (heap_at hz)
  have k8 : ((w.alloc (.cells #[va, vb, vc] 33)).alloc (.cells #[.int .u64 0, .int .u64 0] 25)).heap[z + 1]? = some (.cells #[.int .u64 0, .int .u64 0] 25 (0, 0)) := heap_at (by rw [hz]; simp)
  have hS : ((w.alloc (.cells #[va, vb, vc] 33)).alloc (.cells #[.int .u64 0, .int .u64 0] 25)).heap.size = z + 1 + 1 := by rw [hz]; simp
  have HZ := Lib.hid hz
  have B1 := Lib.hid b1
  have K4 := Lib.hid k4
  have K8 := Lib.hid k8
  clear b1 k4 k8
  go_enter Try.func8, Try.ntmps8
  go_wp2_with (refine wpList_loadL rfl 33 (.tmp 3) rfl w.heap.size 0 (.agg #[va, vb, vc]) rfl (run_loadL (cs := [va, vb, vc]) isAgg33 size33 rfl (AtL_heap (by rw [← HZ.out]; exact K4.out))) ?_)
  rw [← hz]
  clear hz
  generalize ((w.alloc (.cells #[va, vb, vc] 33)).alloc (.cells #[.int .u64 0, .int .u64 0] 25)) = wa at *
  have b2 : Below wa.heap.size wa (wa.alloc (.cells #[.int .i64 s, .int .i64 p0] 3)) := (Below.refl _ _).alloc (Nat.le_refl _) _
  with_reducible refine (HNO.out _ _ (GG.out.below (bthen B1.out b2)) (SlI2 (heap_at hS.symm))).mono ?_
  rintro e w1 ⟨rfl, hb1⟩
  have C1 := Lib.hid (bthen b2 hb1)
  clear b2 hb1 hS
  go_wp2_with (refine wpList_loadL rfl 33 (.tmp 3) rfl z 0 (.agg #[va, vb, vc]) rfl (run_loadL (cs := [va, vb, vc]) isAgg33 size33 rfl (AtL_heap (heap_keep C1.out K4.out))) ?_)
  with_reducible refine (HFL.out _ (GG.out.below (bthen B1.out C1.out))).mono ?_
  rintro e w2 ⟨rfl, hb2⟩
  have C2 := Lib.hid (bthen C1.out hb2)
  clear hb2 C1
  go_wp2_with (refine wpList_loadL rfl 33 (.tmp 3) rfl z 0 (.agg #[va, vb, vc]) rfl (run_loadL (cs := [va, vb, vc]) isAgg33 size33 rfl (AtL_heap (heap_keep C2.out K4.out))) ?_)
  with_reducible refine (HNR.out _ (GG.out.below (bthen B1.out C2.out))).mono ?_
  rintro e w3 ⟨rfl, hb3⟩
  have C3 := Lib.hid (bthen C2.out hb3)
  clear hb3 C2 dkl dkl2
  go_wp2_with (first | (refine wpList_storeN rfl 25 (.tmp 9) (.tmp 37) rfl rfl w3.heap.size (cM A).toArray rfl rfl 25 _ (heap_at rfl) cinfo25s rfl (by simp [Value.oneCell', cM]) ?_; intro w4 hz4 hb4 hn4 hs4; have b4 := below_storeA hb4; have ZA := Lib.hid hz4; have C4 := Lib.hid (bthen C3.out b4); clear hz4 hb4 hn4 hs4 b4) | (refine wpList_loadL rfl 33 (.tmp 3) rfl z 0 (.agg #[va, vb, vc]) rfl (run_loadL (cs := [va, vb, vc]) isAgg33 size33 rfl (AtL_heap (heap_keep C4.out K4.out))) ?_))
  obtain ⟨ga, hga⟩ : ∃ ga, ga = w3.heap.size := ⟨_, rfl⟩
  rw [← hga] at ZA
  rw [← hga]
  clear hga
  with_reducible refine (HFR.out _ (GG.out.below (bthen B1.out C4.out))).mono ?_
  rintro e w5 ⟨rfl, hb5⟩
  have C5 := Lib.hid (bthen C4.out hb5)
  have ZA5 := Lib.hid (heap_keep hb5 ZA.out)
  clear hb5 C4 C3 ZA
  go_wp2_with (first | (refine wpList_storeN rfl 25 (.tmp 11) (.tmp 45) rfl rfl w5.heap.size (cM B).toArray rfl rfl 25 _ (heap_at rfl) cinfo25s rfl (by simp [Value.oneCell', cM]) ?_; intro w6 hz6 hb6 hn6 hs6; have b6 := below_storeA hb6; have ZB := Lib.hid hz6; have C6 := Lib.hid (bthen C5.out b6); have ZA6 := Lib.hid (heap_keep b6 ZA5.out); have b7 : Below w6.heap.size w6 (w6.alloc (.cells #[] 3)) := ((Below.refl _ _).alloc (Nat.le_refl _) _); have B67 := Lib.hid b7; have ZA7 := Lib.hid (heap_keep b7 ZA6.out); have ZB7 := Lib.hid (heap_keep b7 ZB.out); clear hz6 hb6 hn6 hs6 b6 b7) | (refine wpList_loadL rfl 25 (.tmp 9) rfl ga 0 (.agg #[.int .u64 (loM A), .int .u64 (hiM A)]) rfl (cldM ZA7.out) ?_) | (refine wpList_loadL rfl 25 (.tmp 11) rfl w5.heap.size 0 (.agg #[.int .u64 (loM B), .int .u64 (hiM B)]) rfl (cldM ZB7.out) ?_))
  obtain ⟨z5, hz5⟩ : ∃ z5, z5 = w6.heap.size := ⟨_, rfl⟩
  have o5 := fresh_row w6 3 1 z5 (by omega)
  rw [← hz5] at o5 ⊢
  have S5 : Hid (z5 + 1 ≤ (w6.alloc (.cells #[] 3)).heap.size) := Lib.hid (by simp; omega)
  have CC : Hid (Below wa.heap.size wa (w6.alloc (.cells #[] 3))) := Lib.hid (bthen C6.out B67.out)
  have ZZ : Hid (z5 = w6.heap.size) := Lib.hid hz5
  have C6' : Hid (wa.heap.size ≤ w6.heap.size) := Lib.hid C6.out.size
  clear ZA7 ZB7 ZA6 ZB C6 C5 ZA5
  generalize (w6.alloc (.cells #[] 3)) = w7 at *
  have B7 := Lib.hid B67.out
  clear B67 hz5
  with_reducible refine (HAND.out _).mono ?_
  rintro e w8 ⟨rfl, hb8⟩
  have C8 := Lib.hid (bthen CC.out hb8)
  have O8 := Lib.hid (own_below o5 hb8)
  have S8' := Lib.hid (Nat.le_trans S5.out hb8.size)
  have D8 := Lib.hid (hb8.mono (Nat.le_of_succ_le S5.out))
  clear hb8 o5 CC
  go_wp2_with fail
  with_reducible refine (HLI.out _).mono ?_
  rintro e w9 ⟨⟨vl, rfl, hol⟩, hb9⟩
  obtain ⟨Al, cl, rfl⟩ := own_small hol
  have C9 := Lib.hid (bthen C8.out hb9)
  have O9 := Lib.hid (own_below O8.out hb9)
  have S9 := Lib.hid (Nat.le_trans (Nat.le_of_succ_le S8'.out) hb9.size)
  obtain ⟨Al', cl', he', hrl, -⟩ := Sl_of_row cN_len (by omega) hol rfl
  injection he' with e1 e2 e3
  subst e1 e3
  have HRL := Lib.hid hrl
  have NE : Hid (∀ b o, Al = some ⟨b, o, none⟩ → (Value.slice (some ⟨z5, 0, none⟩) 0 0).ownBlock ≠ some b ∧ b < w9.heap.size) := Lib.hid (fun b o hA => by
    subst hA
    rcases hol.2 with ⟨h0, _⟩ | ⟨g, cap, cur, hv, hbg, hgg, _⟩
    · cases h0
    · injection hv with hv
      injection hv with hv
      injection hv with hv _ _
      subst hv
      refine ⟨fun e => ?_, (Array.getElem?_eq_some_iff.1 hgg).1⟩
      have e2 : z5 = b := by simpa [Value.ownBlock] using e
      have := S8'.out
      omega)
  obtain ⟨n, hn⟩ : ∃ n, n = (listM C).length := ⟨_, rfl⟩
  have hn8 : n ≤ 128 := by rw [hn]; unfold listM; exact Nat.le_trans (List.length_filter_le ..) (by simp)
  rw [← hn]
  have HN := Lib.hid hn
  clear hb9 hol e2 hrl hn O8 S8' D8 HAND HLI
  go_wp2_with fail
  go_loopw [13, 15] (fun u i wr => ∃ (k : Nat) (o : Value), k ≤ n ∧ o = u ∧ i = .int .i64 k ∧ Hid (wr.ownsRow z5 3 1 o (((listM C).take k).filter fun n => decide (n ≠ s)).length ((((listM C).take k).filter fun n => decide (n ≠ s)).flatMap cN)) ∧ Hid (Rd cN 1 wr Al (listM C) ∧ (∀ b q, Al = some ⟨b, q, none⟩ → o.ownBlock ≠ some b ∧ b < wr.heap.size)) ∧ Hid (Below z5 w9 wr)) (fun _ i _ => n - (intOf i).toNat)
  case atStart => exact ⟨0, _, Nat.zero_le _, rfl, rfl, O9, Lib.hid ⟨HRL.out, NE.out⟩, Lib.hid (Below.refl _ _)⟩
  case round =>
    clear O9 HRL NE
    obtain ⟨k, o, hk, rfl, rfl, ho, hr, hbw⟩ := hrel
    have BA : Hid (Below wa.heap.size wa wr) := Lib.hid (C9.out.trans (hbw.out.mono (by rw [ZZ.out]; exact C6'.out)))
    by_cases hlt : k < n
    · have hwk1 : IntKind.i64.wrap ((k : Int) + 1) = (k : Int) + 1 := by rw [IntKind.wrap_i64]; omega
      have hk0 : (0 : Int) ≤ (k : Int) := by omega
      have hkn : (k : Int) < (n : Int) := by omega
      have SB := Lib.hid (Nat.le_trans S9.out hbw.out.size)
      have HL : Hid ((((listM C).take k).filter fun n => decide (n ≠ s)).length ≤ 1172812402926) := Lib.hid (Nat.le_trans (List.length_filter_le ..) (by rw [List.length_take]; omega))
      obtain ⟨m, hm⟩ : ∃ m, (listM C)[k]? = some m := ⟨_, List.getElem?_eq_getElem (by rw [← HN.out]; exact hlt)⟩
      have HT := Lib.hid (filt_take (p := fun n => decide (n ≠ s)) hm)
      obtain ⟨bl, ol, rfl, hat⟩ := hr.out.1 k m hm
      have q0 : wr.cell? ⟨bl, ol + k, none⟩ = some (.int .i64 (m : Int)) := by
        have := hat 0 _ rfl
        rwa [Nat.add_zero, Nat.mul_one] at this
      have KG := Lib.hid (heap_keep BA.out K4.out)
      have HC : ∀ w2, Below wr.heap.size wr w2 → w2.cell? ⟨bl, ol + k, none⟩ = some (.int .i64 (m : Int)) ∧ w2.cell? ⟨z, 0, none⟩ = some va ∧ w2.cell? ⟨z, 1, none⟩ = some vb ∧ w2.cell? ⟨z, 2, none⟩ = some vc := fun w2 h => ⟨bcell h q0, by rw [cell_of_row _ _ 0 _ _ _ (heap_keep h KG.out)]; rfl, by rw [cell_of_row _ _ 1 _ _ _ (heap_keep h KG.out)]; rfl, by rw [cell_of_row _ _ 2 _ _ _ (heap_keep h KG.out)]; rfl⟩
      have HO2 : Hid (∀ w2, Below wr.heap.size wr w2 → Calls Try.prog 30 #[.agg #[va, vb, vc], .int .i64 m] w2 fun e w' => e = .returned (.bool false) ∧ Below w2.heap.size w2 w') := Lib.hid (fun w2 h => HOV.out w2 (GG.out.below (bthen (bthen B1.out BA.out) h)) m)
      clear hm hat
      by_cases hms : m = s
      · subst hms
        have HE : Hid (((listM C).take (k + 1)).filter (fun n => decide (n ≠ m)) = ((listM C).take k).filter (fun n => decide (n ≠ m))) := Lib.hid (by rw [HT.out]; simp)
        clear HT
        have RX0 := Lib.hid hr.out
        go_wp2_with fail
        refine Og.walk_lit [[],[],[0,1],[2,0,1],[],[3,4,2,0,1],[5,3,4,2,0,1],[6,5,3,4,2,0,1],[6,5,3,4,2,0,1],[7,8,6,5,3,4,2,0,1],[9,6,7,8,5,3,4,2,0,1],[6,5,3,4,2,0,1],[10,11,6,9,7,8,5,3,4,2,0,1],[12,6,10,11,9,7,8,5,3,4,2,0,1],[13,12,6,10,11,9,7,8,5,3,4,2,0,1],[13,12,6,10,11,9,7,8,5,3,4,2,0,1],[13,12,6,10,11,9,7,8,5,3,4,2,0,1],[15,16,13,12,6,10,11,9,7,8,5,3,4,2,0,1],[17,13,15,16,12,6,10,11,9,7,8,5,3,4,2,0,1],[14,18,13,12,6,10,11,9,7,8,5,3,4,2,0,1,17,15,16],[19,13,14,18,12,6,10,11,9,7,8,5,3,4,2,0,1,17,15,16],[13,20,6,12,10,11,9,7,8,5,3,4,2,0,1,19,14,18,17,15,16],[6,21,5,3,4,2,0,1,13,20,12,10,11,9,7,8,19,14,18,17,15,16]] (fun w2 => Below wr.heap.size wr w2) (fun w1 w2 => Below w1.heap.size w1 w2) (by kernel_rfl) (by kernel_rfl) (bdrew) ?_
        repeat (first | (refine Og.step_pure (fun _ => Below.refl _ _) ?_; apply Exists.intro; refine And.intro ?_ ?_; focus (intro vs w2 hC hk; have hm := HC w2 hC; revert hk; simp only [Og.KS, Og.K0, Og.Is, List.getD_cons_zero, List.getD_cons_succ, List.getD_nil, List.contains_cons, List.contains_nil, Nat.reduceAdd, Nat.reduceBEq, Bool.or_false, Bool.false_or, Bool.or_true, Bool.true_or, Bool.false_eq_true, false_implies, true_implies, true_and, and_true, forall_const]; intros; go_simp; rfl)) | (refine Og.step_one ?_; apply Exists.intro; refine And.intro ?_ ?_; focus (intro vs w2 hC hk; have hm := HC w2 hC; revert hk; simp only [Og.KS, Og.K0, Og.Is, List.getD_cons_zero, List.getD_cons_succ, List.getD_nil, List.contains_cons, List.contains_nil, Nat.reduceAdd, Nat.reduceBEq, Bool.or_false, Bool.false_or, Bool.or_true, Bool.true_or, Bool.false_eq_true, false_implies, true_implies, true_and, and_true, forall_const]; intros; go_simp; with_reducible refine (HO2.out _ hC).mono ?_; rintro e w3 ⟨rfl, hb⟩; exact Og.RetV.mk ⟨bthen hC hb, hb, rfl⟩)))
        intro vs w4 hC hk
        have hm := HC w4 hC
        simp only [Og.KS, Og.K0, Og.Is, List.getD_cons_zero, List.getD_cons_succ, List.getD_nil, List.contains_cons, List.contains_nil, Nat.reduceAdd, Nat.reduceBEq, Bool.or_false, Bool.false_or, Bool.or_true, Bool.true_or, Bool.false_eq_true, false_implies, true_implies, true_and, and_true, forall_const] at hk
        simp only [hk, Act.put, List.setIfInBounds_toArray, List.set_cons_zero, List.set_cons_succ]
        clear hk
        have OX := Lib.hid (own_below ho.out hC)
        have RX : Hid (Rd cN 1 w4 (some ⟨bl, ol, none⟩) (listM C) ∧ (∀ b q, some (⟨bl, ol, none⟩ : Addr) = some ⟨b, q, none⟩ → o.ownBlock ≠ some b ∧ b < w4.heap.size)) := Lib.hid ⟨hr.out.1.below hC, fun b q h => ⟨(hr.out.2 b q h).1, Nat.lt_of_lt_of_le (hr.out.2 b q h).2 hC.size⟩⟩
        have BX := Lib.hid (hbw.out.trans (below_low hC S9.out hbw.out))
        have SX := Lib.hid (Nat.le_trans SB.out hC.size)
        have q1 := hm.1
        clear hC hm HC HO2 q0 ho hr hbw RX0
        clear q1
        go_wp2_with fail
        go_roundw
        case rel => exact ⟨k + 1, _, by omega, rfl, by go_num, by rw [HE.out]; exact OX, RX, BX⟩
        case measure => simp [intOf]; omega
      · have e1 : ((m : Int) != (s : Int)) = true := by simp; omega
        have HE : Hid (((listM C).take (k + 1)).filter (fun n => decide (n ≠ s)) = ((listM C).take k).filter (fun n => decide (n ≠ s)) ++ [m]) := Lib.hid (by rw [HT.out]; simp [hms])
        clear HT
        by_cases hmp : m = p0
        · have e2 : ((m : Int) == (p0 : Int)) = true := by simp; omega
          subst hmp
          have RX0 := Lib.hid hr.out
          go_wp2_with fail
          refine Og.walk_lit [[],[],[0,1],[2,0,1],[],[3,4,2,0,1],[5,3,4,2,0,1],[6,5,3,4,2,0,1],[6,5,3,4,2,0,1],[7,8,6,5,3,4,2,0,1],[9,6,7,8,5,3,4,2,0,1],[6,5,3,4,2,0,1],[10,11,6,9,7,8,5,3,4,2,0,1],[12,6,10,11,9,7,8,5,3,4,2,0,1],[13,12,6,10,11,9,7,8,5,3,4,2,0,1],[13,12,6,10,11,9,7,8,5,3,4,2,0,1],[13,12,6,10,11,9,7,8,5,3,4,2,0,1],[15,16,13,12,6,10,11,9,7,8,5,3,4,2,0,1],[17,13,15,16,12,6,10,11,9,7,8,5,3,4,2,0,1],[14,18,13,12,6,10,11,9,7,8,5,3,4,2,0,1,17,15,16],[19,13,14,18,12,6,10,11,9,7,8,5,3,4,2,0,1,17,15,16],[13,20,6,12,10,11,9,7,8,5,3,4,2,0,1,19,14,18,17,15,16],[6,21,5,3,4,2,0,1,13,20,12,10,11,9,7,8,19,14,18,17,15,16]] (fun w2 => Below wr.heap.size wr w2) (fun w1 w2 => Below w1.heap.size w1 w2) (by kernel_rfl) (by kernel_rfl) (bdrew) ?_
          repeat (first | (refine Og.step_pure (fun _ => Below.refl _ _) ?_; apply Exists.intro; refine And.intro ?_ ?_; focus (intro vs w2 hC hk; have hm := HC w2 hC; revert hk; simp only [Og.KS, Og.K0, Og.Is, List.getD_cons_zero, List.getD_cons_succ, List.getD_nil, List.contains_cons, List.contains_nil, Nat.reduceAdd, Nat.reduceBEq, Bool.or_false, Bool.false_or, Bool.or_true, Bool.true_or, Bool.false_eq_true, false_implies, true_implies, true_and, and_true, forall_const]; intros; go_simp; rfl)) | (refine Og.step_one ?_; apply Exists.intro; refine And.intro ?_ ?_; focus (intro vs w2 hC hk; have hm := HC w2 hC; revert hk; simp only [Og.KS, Og.K0, Og.Is, List.getD_cons_zero, List.getD_cons_succ, List.getD_nil, List.contains_cons, List.contains_nil, Nat.reduceAdd, Nat.reduceBEq, Bool.or_false, Bool.false_or, Bool.or_true, Bool.true_or, Bool.false_eq_true, false_implies, true_implies, true_and, and_true, forall_const]; intros; go_simp; with_reducible refine (HO2.out _ hC).mono ?_; rintro e w3 ⟨rfl, hb⟩; exact Og.RetV.mk ⟨bthen hC hb, hb, rfl⟩)))
          intro vs w4 hC hk
          have hm := HC w4 hC
          simp only [Og.KS, Og.K0, Og.Is, List.getD_cons_zero, List.getD_cons_succ, List.getD_nil, List.contains_cons, List.contains_nil, Nat.reduceAdd, Nat.reduceBEq, Bool.or_false, Bool.false_or, Bool.or_true, Bool.true_or, Bool.false_eq_true, false_implies, true_implies, true_and, and_true, forall_const] at hk
          simp only [hk, Act.put, List.setIfInBounds_toArray, List.set_cons_zero, List.set_cons_succ]
          clear hk
          have OX := Lib.hid (own_below ho.out hC)
          have RX : Hid (Rd cN 1 w4 (some ⟨bl, ol, none⟩) (listM C) ∧ (∀ b q, some (⟨bl, ol, none⟩ : Addr) = some ⟨b, q, none⟩ → o.ownBlock ≠ some b ∧ b < w4.heap.size)) := Lib.hid ⟨hr.out.1.below hC, fun b q h => ⟨(hr.out.2 b q h).1, Nat.lt_of_lt_of_le (hr.out.2 b q h).2 hC.size⟩⟩
          have BX := Lib.hid (hbw.out.trans (below_low hC S9.out hbw.out))
          have SX := Lib.hid (Nat.le_trans SB.out hC.size)
          have q1 := hm.1
          clear hC hm HC HO2 q0 ho hr hbw RX0
          go_wp2_with (at_builtin; refine wpList_appGat cN 1 73 3 8 cN_len cN_one (by omega) Try.underlying73 cinfo3 rfl (by omega) rfl (.tmp 81) (.tmp 86) rfl z5 _ o (((listM C).take k).filter fun n => decide (n ≠ s)) m rfl rfl (own_below OX.out ((Below.refl _ _).alloc (Nat.le_refl _) _)) (heap_at rfl) HL.out (alloc_le' SX.out) ?_; intro v9 w9 ho9 hg9 hat9; have b9 := app_below OX.out SX.out hg9; have O9 := Lib.hid ho9; have B9 := Lib.hid (BX.out.trans b9); have R9 : Hid (Rd cN 1 w9 (some ⟨bl, ol, none⟩) (listM C) ∧ (∀ b q, some (⟨bl, ol, none⟩ : Addr) = some ⟨b, q, none⟩ → v9.ownBlock ≠ some b ∧ b < w9.heap.size)) := Lib.hid ⟨rd_grown (RX.out.1.below ((Below.refl _ _).alloc (Nat.le_refl _) _)) hg9 (fun b q h => (RX.out.2 b q h).1), fun b q h => ⟨app_ne (RX.out.2 b q h).1 (RX.out.2 b q h).2 hat9, Nat.lt_of_lt_of_le (RX.out.2 b q h).2 b9.size⟩⟩; clear ho9 hg9 b9 hat9)
          go_roundw
          case rel => exact ⟨k + 1, _, by omega, rfl, by go_num, by rw [HE.out]; exact O9, R9, B9⟩
          case measure => simp [intOf]; omega
        · have e2 : ((m : Int) = (p0 : Int)) = False := eq_false (by omega)
          have RX0 := Lib.hid hr.out
          go_wp2_with fail
          refine Og.walk_lit [[],[],[0,1],[2,0,1],[],[3,4,2,0,1],[5,3,4,2,0,1],[6,5,3,4,2,0,1],[6,5,3,4,2,0,1],[7,8,6,5,3,4,2,0,1],[9,6,7,8,5,3,4,2,0,1],[6,5,3,4,2,0,1],[10,11,6,9,7,8,5,3,4,2,0,1],[12,6,10,11,9,7,8,5,3,4,2,0,1],[13,12,6,10,11,9,7,8,5,3,4,2,0,1],[13,12,6,10,11,9,7,8,5,3,4,2,0,1],[13,12,6,10,11,9,7,8,5,3,4,2,0,1],[15,16,13,12,6,10,11,9,7,8,5,3,4,2,0,1],[17,13,15,16,12,6,10,11,9,7,8,5,3,4,2,0,1],[14,18,13,12,6,10,11,9,7,8,5,3,4,2,0,1,17,15,16],[19,13,14,18,12,6,10,11,9,7,8,5,3,4,2,0,1,17,15,16],[13,20,6,12,10,11,9,7,8,5,3,4,2,0,1,19,14,18,17,15,16],[6,21,5,3,4,2,0,1,13,20,12,10,11,9,7,8,19,14,18,17,15,16]] (fun w2 => Below wr.heap.size wr w2) (fun w1 w2 => Below w1.heap.size w1 w2) (by kernel_rfl) (by kernel_rfl) (bdrew) ?_
          repeat (first | (refine Og.step_pure (fun _ => Below.refl _ _) ?_; apply Exists.intro; refine And.intro ?_ ?_; focus (intro vs w2 hC hk; have hm := HC w2 hC; revert hk; simp only [Og.KS, Og.K0, Og.Is, List.getD_cons_zero, List.getD_cons_succ, List.getD_nil, List.contains_cons, List.contains_nil, Nat.reduceAdd, Nat.reduceBEq, Bool.or_false, Bool.false_or, Bool.or_true, Bool.true_or, Bool.false_eq_true, false_implies, true_implies, true_and, and_true, forall_const]; intros; go_simp; rfl)) | (refine Og.step_one ?_; apply Exists.intro; refine And.intro ?_ ?_; focus (intro vs w2 hC hk; have hm := HC w2 hC; revert hk; simp only [Og.KS, Og.K0, Og.Is, List.getD_cons_zero, List.getD_cons_succ, List.getD_nil, List.contains_cons, List.contains_nil, Nat.reduceAdd, Nat.reduceBEq, Bool.or_false, Bool.false_or, Bool.or_true, Bool.true_or, Bool.false_eq_true, false_implies, true_implies, true_and, and_true, forall_const]; intros; go_simp; with_reducible refine (HO2.out _ hC).mono ?_; rintro e w3 ⟨rfl, hb⟩; exact Og.RetV.mk ⟨bthen hC hb, hb, rfl⟩)))
          intro vs w4 hC hk
          have hm := HC w4 hC
          simp only [Og.KS, Og.K0, Og.Is, List.getD_cons_zero, List.getD_cons_succ, List.getD_nil, List.contains_cons, List.contains_nil, Nat.reduceAdd, Nat.reduceBEq, Bool.or_false, Bool.false_or, Bool.or_true, Bool.true_or, Bool.false_eq_true, false_implies, true_implies, true_and, and_true, forall_const] at hk
          simp only [hk, Act.put, List.setIfInBounds_toArray, List.set_cons_zero, List.set_cons_succ]
          clear hk
          have OX := Lib.hid (own_below ho.out hC)
          have RX : Hid (Rd cN 1 w4 (some ⟨bl, ol, none⟩) (listM C) ∧ (∀ b q, some (⟨bl, ol, none⟩ : Addr) = some ⟨b, q, none⟩ → o.ownBlock ≠ some b ∧ b < w4.heap.size)) := Lib.hid ⟨hr.out.1.below hC, fun b q h => ⟨(hr.out.2 b q h).1, Nat.lt_of_lt_of_le (hr.out.2 b q h).2 hC.size⟩⟩
          have BX := Lib.hid (hbw.out.trans (below_low hC S9.out hbw.out))
          have SX := Lib.hid (Nat.le_trans SB.out hC.size)
          have q1 := hm.1
          clear hC hm HC HO2 q0 ho hr hbw RX0
          go_wp2_with (at_builtin; refine wpList_appGat cN 1 73 3 8 cN_len cN_one (by omega) Try.underlying73 cinfo3 rfl (by omega) rfl (.tmp 81) (.tmp 86) rfl z5 _ o (((listM C).take k).filter fun n => decide (n ≠ s)) m rfl rfl (own_below OX.out ((Below.refl _ _).alloc (Nat.le_refl _) _)) (heap_at rfl) HL.out (alloc_le' SX.out) ?_; intro v9 w9 ho9 hg9 hat9; have b9 := app_below OX.out SX.out hg9; have O9 := Lib.hid ho9; have B9 := Lib.hid (BX.out.trans b9); have R9 : Hid (Rd cN 1 w9 (some ⟨bl, ol, none⟩) (listM C) ∧ (∀ b q, some (⟨bl, ol, none⟩ : Addr) = some ⟨b, q, none⟩ → v9.ownBlock ≠ some b ∧ b < w9.heap.size)) := Lib.hid ⟨rd_grown (RX.out.1.below ((Below.refl _ _).alloc (Nat.le_refl _) _)) hg9 (fun b q h => (RX.out.2 b q h).1), fun b q h => ⟨app_ne (RX.out.2 b q h).1 (RX.out.2 b q h).2 hat9, Nat.lt_of_lt_of_le (RX.out.2 b q h).2 b9.size⟩⟩; clear ho9 hg9 b9 hat9)
          go_roundw
          case rel => exact ⟨k + 1, _, by omega, rfl, by go_num, by rw [HE.out]; exact O9, R9, B9⟩
          case measure => simp [intOf]; omega
    · have hkn : k = n := by omega
      have hkf : ¬ ((k : Int) < (n : Int)) := by omega
      have ho : Hid (wr.ownsRow z5 3 1 o L.length (L.flatMap cN)) := Lib.hid (by
        have h := ho.out
        rw [List.take_of_length_le (by rw [hkn]; exact Nat.le_of_eq HN.out.symm), ← HLC.out] at h
        exact h)
      clear hkn
      have K8R := Lib.hid (heap_keep BA.out K8.out)
      have BWR := Lib.hid (bthen B1.out BA.out)
      have hs := Sl_of_row cN_len (by omega) (own_lower ho.out (Nat.zero_le _)) rfl
      have hco := rOf_ok _ _ _ hs (fun x hx => by rw [HLC.out] at hx; exact listM_lt (List.mem_filter.1 hx).1) (by rw [HLC.out]; refine Nat.le_trans (List.length_filter_le ..) ?_; rw [← HN.out]; omega)
      obtain ⟨C, hC⟩ : ∃ C, C = ofM L := ⟨_, rfl⟩
      rw [← hC] at hco
      have HCC := Lib.hid hC
      unfold mV at hco
      have HCO := Lib.hid hco
      clear hs hco hC
      go_wp2_with fail
      with_reducible refine (HCO.out).mono ?_
      rintro e w7 ⟨rfl, hb7⟩
      have B7 := Lib.hid (bthen BWR.out hb7)
      have K7 := Lib.hid (heap_keep hb7 K8R.out)
      clear hb7
      go_wp2_with (first | (refine wpList_storeN rfl 25 (.tmp 6) (.tmp 90) rfl rfl (z + 1) (cM C).toArray rfl rfl 25 _ K7.out cinfo25s rfl (by simp [Value.oneCell', cM]) ?_; intro w9 hz9 hb9 hn9 hs9; have Z9 := Lib.hid hz9; have D9 := Lib.hid (B7.out.trans (hb9 _ (by have := HZ.out; omega))); clear hz9 hb9 hn9 hs9))
      refine bodyPost_ret (results_cell_tmp1' rfl rfl (cldM Z9.out)) rfl ?_
      exact ⟨by rw [← HCC.out]; rfl, D9.out⟩

end Go.Proofs.Ytpklcefiabjplaa
