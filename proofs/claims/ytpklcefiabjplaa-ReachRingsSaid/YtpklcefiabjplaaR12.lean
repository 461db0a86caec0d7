/- Asking a sound graph for nodes, and for a distance; conditions as stated. -/
import Derived.Test.YtpklcefiabjplaaR11
import Derived.Test.YtpklcefiabjplaaH9
namespace Go.Proofs.Ytpklcefiabjplaa
open Go.ChangeShapes Go.WideShapes Go.ChangeAt Go.RowKit
set_option linter.unusedVariables false
set_option linter.unusedSimpArgs false
attribute [local go_sem] Og.Opt Og.OpY

attribute [local go_sem] Og.Opt Og.OpY
/-- a sound graph without pins, as one value -/
structure GX (w : World) (va vb vc : Value) (ns : List Nd) (ls : List Lk) : Prop where
  sa : Sl cNd 3 0 w va ns
  sb : Sl cLk 4 0 w vb ls
  sc : Sl cPn 4 0 w vc []
  snd : SndG ns ls []
  len : ns.length ≤ 128
theorem GX.below {w w2 : World} {va vb vc : Value} {ns : List Nd} {ls : List Lk} (g : GX w va vb vc ns ls) (hb : Below w.heap.size w w2) : GX w2 va vb vc ns ls := ⟨g.sa.below hb, g.sb.below hb, g.sc.below hb, g.snd, g.len⟩
theorem GX.check {w : World} {va vb vc : Value} {ns : List Nd} {ls : List Lk} (g : GX w va vb vc ns ls) : Calls Try.prog 14 #[.agg #[va, vb, vc]] w fun e w' => e = .returned (.int .i64 0) ∧ Below w.heap.size w w' := Check_ok ns ls [] va vb vc w g.sa g.sb g.sc g.snd g.len
theorem GX.node {w : World} {va vb vc : Value} {ns : List Nd} {ls : List Lk} (g : GX w va vb vc ns ls) {a : Int} {k : Nat} (hk : ns[k]? = some ⟨a⟩) : Calls Try.prog 61 #[.agg #[va, vb, vc], .int .i64 a] w fun e w' => e = .returned (.tuple #[.int .i64 (k : Int), .bool true]) ∧ Below w.heap.size w w' := by
  have hat := At.node g.snd.na hk
  refine (nodeAt_ok ns a va vb vc w g.sa (by have := g.len; omega) hat.mo).mono ?_
  rintro e w3 ⟨⟨k', rfl, hc'⟩, hb3⟩
  rw [cut_unique hc' hat.cu, hat.hi]
  exact ⟨rfl, hb3⟩
theorem GX.rng {w : World} {va vb vc : Value} {ns : List Nd} {ls : List Lk} (g : GX w va vb vc ns ls) {a : Int} {k : Nat} (hk : ns[k]? = some ⟨a⟩) : rng 0 127 a = true := g.snd.nr k _ hk
set_option maxRecDepth 100000 in
set_option maxHeartbeats 8000000 in
theorem gnodes_ok (xs : List Int) (ns : List Nd) (ls : List Lk) (va vb vc : Value) (b : Nat) (w : World) (g : GX w va vb vc ns ls) (ha : AtL w b 0 (dC xs)) (hl : xs.length ≤ 1000) (hx : ∀ x ∈ xs, ∃ k : Nat, ns[k]? = some ⟨x⟩) :
    Calls Try.prog 80 #[.agg #[va, vb, vc], .slice (some ⟨b, 0, none⟩) xs.length xs.length] w fun e w' => e = .returned (.int .i64 0) ∧ Below w.heap.size w w' := by
  obtain ⟨n, hn⟩ : ∃ n, n = xs.length := ⟨_, rfl⟩
  rw [← hn] at hl ⊢
  have HN := Lib.hid hn
  have HX := Lib.hid hx
  have HA := Lib.hid ha
  have GG := Lib.hid g
  clear hn hx ha g
  have ba : Below w.heap.size w (w.alloc (.cells #[va, vb, vc] 33)) := (Below.refl _ _).alloc (Nat.le_refl _) _
  have HC := Lib.hid (GG.out.below ba).check
  have q0 : ∀ j u, [va, vb, vc][j]? = some u → (w.alloc (.cells #[va, vb, vc] 33)).cell? ⟨w.heap.size, j, none⟩ = some u := fun j u hu => by
    rw [cell_of_row _ _ j _ _ _ (heap_at rfl)]; simpa using hu
  have c0 := q0 0 _ rfl
  have c1 := q0 1 _ rfl
  have c2 := q0 2 _ rfl
  have BA := Lib.hid ba
  clear q0 ba
  go_enter Try.func80, Try.ntmps80
  go_wp2_with fail
  with_reducible refine (HC.out).mono ?_
  rintro e w2 ⟨rfl, hb⟩
  have B2 := Lib.hid (bthen BA.out hb)
  have d0 := bcell hb c0
  have d1 := bcell hb c1
  have d2 := bcell hb c2
  clear hb c0 c1 c2 HC BA
  go_wp2_with fail
  go_loopw [19] (fun i wr => ∃ k : Nat, k ≤ n ∧ i = .int .i64 k ∧ Hid (Below w2.heap.size w2 wr)) (fun i _ => n - (intOf i).toNat)
  case atStart => exact ⟨0, Nat.zero_le _, rfl, Lib.hid (Below.refl _ _)⟩
  case round =>
    obtain ⟨k, hk, rfl, hbw⟩ := hrel
    by_cases hlt : k < n
    · have hwk1 : IntKind.i64.wrap ((k : Int) + 1) = (k : Int) + 1 := by rw [IntKind.wrap_i64]; omega
      have hk0 : (0 : Int) ≤ (k : Int) := by omega
      have hkn : (k : Int) < (n : Int) := by omega
      obtain ⟨x, hxk⟩ : ∃ x, xs[k]? = some x := ⟨_, List.getElem?_eq_getElem (by rw [← HN.out]; exact hlt)⟩
      obtain ⟨kk, hkk⟩ := HX.out x (List.mem_of_getElem? hxk)
      have qx : wr.cell? ⟨b, k, none⟩ = some (.int .i64 x) := by
        have := HA.out k (.int .i64 x) (by simp [dC, hxk])
        rw [Nat.zero_add] at this
        exact bcell (bthen B2.out hbw.out) this
      have hr := GG.out.rng hkk
      have HI := Lib.hid (fun w2 => in_ok x w2)
      rw [hr] at HI
      clear hxk hkk hr
      go_wp2_with fail
      with_reducible refine (HI.out _).mono ?_
      rintro e w3 ⟨rfl, hb3⟩
      have B3 := Lib.hid (bthen hbw.out hb3)
      clear hb3 qx
      go_wp2_with fail
      go_roundw
      case rel => exact ⟨k + 1, by omega, by go_num, B3⟩
      case measure => simp [intOf]; omega
    · have hkn : k = n := by omega
      subst hkn
      have e0 := bcell hbw.out d0
      have e1 := bcell hbw.out d1
      have e2 := bcell hbw.out d2
      have BR := Lib.hid (bthen B2.out hbw.out)
      clear d0 d1 d2 hbw hlt hk B2
      go_wp2_with fail
      go_loopw [29] (fun i wx => ∃ q : Nat, q ≤ k ∧ i = .int .i64 q ∧ Hid (Below wr.heap.size wr wx)) (fun i _ => k - (intOf i).toNat)
      case atStart => exact ⟨0, Nat.zero_le _, rfl, Lib.hid (Below.refl _ _)⟩
      case round =>
        obtain ⟨q, hq, rfl, hbx⟩ := hrel
        by_cases hlt : q < k
        · have hwk1 : IntKind.i64.wrap ((q : Int) + 1) = (q : Int) + 1 := by rw [IntKind.wrap_i64]; omega
          have hk0 : (0 : Int) ≤ (q : Int) := by omega
          have hkn : (q : Int) < (k : Int) := by omega
          obtain ⟨x, hxk⟩ : ∃ x, xs[q]? = some x := ⟨_, List.getElem?_eq_getElem (by rw [← HN.out]; exact hlt)⟩
          obtain ⟨kk, hkk⟩ := HX.out x (List.mem_of_getElem? hxk)
          have BX := Lib.hid (bthen BR.out hbx.out)
          have qx : wr.cell? ⟨b, q, none⟩ = some (.int .i64 x) := by
            have := HA.out q (.int .i64 x) (by simp [dC, hxk])
            rw [Nat.zero_add] at this
            exact bcell BX.out this
          have HI := Lib.hid ((GG.out.below BX.out).node hkk)
          have f0 := bcell hbx.out e0
          have f1 := bcell hbx.out e1
          have f2 := bcell hbx.out e2
          clear hxk hkk e0 e1 e2
          go_wp2_with fail
          with_reducible refine (HI.out).mono ?_
          rintro e w3 ⟨rfl, hb3⟩
          have B3 := Lib.hid (bthen hbx.out hb3)
          clear hb3 qx f0 f1 f2
          go_wp2_with fail
          go_roundw
          case rel => exact ⟨q + 1, by omega, by go_num, B3⟩
          case measure => simp [intOf]; omega
        · have hqn : q = k := by omega
          subst hqn
          have BX := Lib.hid (bthen BR.out hbx.out)
          clear hlt hq hbx
          go_wp2_with fail
          go_ret
          exact ⟨rfl, BX.out⟩
set_option maxRecDepth 100000 in
set_option maxHeartbeats 8000000 in
theorem Node_ok (a : Int) (k : Nat) (ns : List Nd) (ls : List Lk) (va vb vc : Value) (w : World) (g : GX w va vb vc ns ls) (hk : ns[k]? = some ⟨a⟩) :
    Calls Try.prog 45 #[.agg #[va, vb, vc], .int .i64 a] w fun e w' => e = .returned (.tuple #[.agg (cNd ⟨a⟩).toArray, .int .i64 0]) ∧ Below w.heap.size w w' := by
  obtain ⟨z, hz⟩ : ∃ z, z = w.heap.size := ⟨_, rfl⟩
  have GG := Lib.hid g
  have HK := Lib.hid hk
  obtain ⟨A, ca, hva, hrd, -⟩ := g.sa
  obtain ⟨n1, hn1⟩ : ∃ n, n = ns.length := ⟨_, rfl⟩
  rw [← hn1] at hva
  subst hva
  obtain ⟨b0, o0, rfl, hat⟩ := hrd k _ hk
  have HAT := Lib.hid hat
  have hkn : (k : Int) < (n1 : Int) := by have := (List.getElem?_eq_some_iff.1 hk).1; omega
  have hk0 : (0 : Int) ≤ (k : Int) := by omega
  have HZ := Lib.hid hz
  clear hrd hat hk g hn1
  go_enter Try.func45, Try.ntmps45
  go_wp2_with fail
  rw [← hz]
  clear hz
  have b1 : Below w.heap.size w (((w.alloc (.cells #[.slice (some ⟨b0, o0, none⟩) n1 ca, vb, vc] 33)).alloc (.cells #[.int .i64 0, .bool false, .complex .f64 0 0] 41)).alloc (.cells #[.int .i64 a] 3)) := (((Below.refl _ _).alloc (Nat.le_refl _) _).alloc (by simp) _).alloc (by simp; omega) _
  have k0 : (((w.alloc (.cells #[.slice (some ⟨b0, o0, none⟩) n1 ca, vb, vc] 33)).alloc (.cells #[.int .i64 0, .bool false, .complex .f64 0 0] 41)).alloc (.cells #[.int .i64 a] 3)).heap[z]? = some (.cells #[.slice (some ⟨b0, o0, none⟩) n1 ca, vb, vc] 33 (0, 0)) := heap_keep ((Below.refl _ _).alloc (Nat.le_refl _) _) (heap_keep ((Below.refl _ _).alloc (Nat.le_refl _) _) (heap_at HZ.out))
  have k1 : (((w.alloc (.cells #[.slice (some ⟨b0, o0, none⟩) n1 ca, vb, vc] 33)).alloc (.cells #[.int .i64 0, .bool false, .complex .f64 0 0] 41)).alloc (.cells #[.int .i64 a] 3)).heap[z + 1]? = some (.cells #[.int .i64 0, .bool false, .complex .f64 0 0] 41 (0, 0)) := heap_keep ((Below.refl _ _).alloc (Nat.le_refl _) _) (heap_at (by rw [HZ.out]; simp))
  have k2 : AtL (((w.alloc (.cells #[.slice (some ⟨b0, o0, none⟩) n1 ca, vb, vc] 33)).alloc (.cells #[.int .i64 0, .bool false, .complex .f64 0 0] 41)).alloc (.cells #[.int .i64 a] 3)) (z + 1 + 1) 0 (dC [a]) := AtL_heap (heap_at (by rw [HZ.out]; simp))
  generalize (((w.alloc (.cells #[.slice (some ⟨b0, o0, none⟩) n1 ca, vb, vc] 33)).alloc (.cells #[.int .i64 0, .bool false, .complex .f64 0 0] 41)).alloc (.cells #[.int .i64 a] 3)) = wa at *
  refine (gnodes_ok [a] ns ls _ vb vc _ wa (GG.out.below b1) k2 (by simp) (fun x hx => ⟨k, by simp at hx; rw [hx]; exact HK.out⟩)).mono ?_
  rintro e w2 ⟨rfl, hb⟩
  have B2 := Lib.hid (bthen b1 hb)
  have K0 := Lib.hid (heap_keep hb k0)
  have K1 := Lib.hid (heap_keep hb k1)
  have HI := Lib.hid ((GG.out.below B2.out).node HK.out)
  have c0 : w2.cell? ⟨z, 0, none⟩ = some (.slice (some ⟨b0, o0, none⟩) n1 ca) := by rw [cell_of_row w2 _ 0 _ _ _ K0.out]; rfl
  have c1 : w2.cell? ⟨z, 1, none⟩ = some vb := by rw [cell_of_row w2 _ 1 _ _ _ K0.out]; rfl
  have c2 : w2.cell? ⟨z, 2, none⟩ = some vc := by rw [cell_of_row w2 _ 2 _ _ _ K0.out]; rfl
  clear b1 k0 k1 k2 hb
  go_wp2_with fail
  with_reducible refine (HI.out).mono ?_
  rintro e w3 ⟨rfl, hb3⟩
  have B3 := Lib.hid (bthen B2.out hb3)
  have K13 := Lib.hid (heap_keep hb3 K1.out)
  have d0 := bcell hb3 c0
  have r1 := Lib.hid (run_loadL isAgg41 size41 (cNd_len ⟨a⟩) (HAT.out.below B3.out))
  clear c0 c1 c2 hb3 B2 K0 K1 HI
  go_wp2_with (first | (refine wpList_loadL rfl 41 (.tmp 27) rfl b0 (o0 + k * 3) (.agg (cNd ⟨a⟩).toArray) rfl r1.out ?_) | (refine wpList_storeN rfl 41 (.tmp 9) (.tmp 28) rfl rfl w3.heap.size (cNd ⟨a⟩).toArray rfl rfl 41 _ (heap_at rfl) info41s rfl (by simp [Value.oneCell', cNd]) ?_; intro w4 hz hbb hn9 hs4; have b4 := below_storeA hbb; have Z4 := Lib.hid hz; have B4 := Lib.hid (bthen B3.out b4); have K14 := Lib.hid (heap_keep b4 K13.out); have ql2 : w4.cell? ⟨w3.heap.size, 2, none⟩ = some (.complex .f64 0 0) := (by rw [cell_of_row w4 _ 2 _ _ _ hz]; rfl); clear b4 hz hbb hn9 hs4))
  refine (plain_ok _).mono ?_
  rintro e w5 ⟨rfl, hb5⟩
  have B5 := Lib.hid (bthen B4.out hb5)
  have Z5 := Lib.hid (heap_keep hb5 Z4.out)
  have K15 := Lib.hid (heap_keep hb5 K14.out)
  have q3 := bcell hb5 ql2
  have hself : w5.setCell ⟨w3.heap.size, 2, none⟩ (.complex .f64 0 0) = w5 := setCell_self Z5.out q3
  have fz : w5.frozen? ⟨w3.heap.size, 2, none⟩ = false := by simp [World.frozen?, Z5.out]
  have hst : (store ⟨w3.heap.size, 2, none⟩ (.complex .f64 0 0)).run Try.prog w5 = .ok () w5 := by
    rw [run_store Try.prog w5 _ _ _ rfl]
    simp [q3, fz, hself]
  clear ql2 hb5 B4 Z4 K14 q3
  go_wp2_with (first | (simp only [hst]; done) | (simp only [hst]) | (refine wpList_loadL rfl 41 (.tmp 9) rfl w3.heap.size 0 (.agg (cNd ⟨a⟩).toArray) rfl (run_loadL isAgg41 size41 (cNd_len ⟨a⟩) (AtL_heap Z5.out)) ?_) | (refine wpList_storeN rfl 41 (.tmp 4) (.tmp 33) rfl rfl (z + 1) (cNd ⟨a⟩).toArray rfl rfl 41 _ K15.out info41s rfl (by simp [Value.oneCell', cNd]) ?_; intro w6 hz hbb hn9 hs4; have Z6 := Lib.hid hz; have B6 := Lib.hid (B5.out.trans (hbb _ (by have := HZ.out; omega))); clear hz hbb hn9 hs4))
  refine bodyPost_ret (results_cell_tmp1 rfl rfl (run_loadL isAgg41 size41 (cNd_len ⟨a⟩) (AtL_heap Z6.out))) rfl ?_
  exact ⟨rfl, B6.out⟩
set_option maxRecDepth 100000 in
set_option maxHeartbeats 8000000 in
theorem fnodes_ok (xs : List Int) (ns : List Nd) (ls : List Lk) (va vb vc : Value) (b : Nat) (w : World) (g : GX w va vb vc ns ls) (ha : AtL w b 0 (dC xs)) (hl : xs.length ≤ 1000) (hx : ∀ x ∈ xs, ∃ k : Nat, ns[k]? = some ⟨x⟩) :
    Calls Try.prog 77 #[.agg #[va, vb, vc], .slice (some ⟨b, 0, none⟩) xs.length xs.length] w fun e w' => e = .returned (.int .i64 0) ∧ Below w.heap.size w w' := by
  obtain ⟨n, hn⟩ : ∃ n, n = xs.length := ⟨_, rfl⟩
  rw [← hn] at hl ⊢
  have HN := Lib.hid hn
  have HX := Lib.hid hx
  have HA := Lib.hid ha
  have GG := Lib.hid g
  clear hn hx ha g
  have ba : Below w.heap.size w (w.alloc (.cells #[va, vb, vc] 33)) := (Below.refl _ _).alloc (Nat.le_refl _) _
  have q0 : ∀ j u, [va, vb, vc][j]? = some u → (w.alloc (.cells #[va, vb, vc] 33)).cell? ⟨w.heap.size, j, none⟩ = some u := fun j u hu => by
    rw [cell_of_row _ _ j _ _ _ (heap_at rfl)]; simpa using hu
  have d0 := q0 0 _ rfl
  have d1 := q0 1 _ rfl
  have d2 := q0 2 _ rfl
  have B2 := Lib.hid ba
  clear q0 ba
  go_enter Try.func77, Try.ntmps77
  go_wp2_with fail
  generalize w.alloc (.cells #[va, vb, vc] 33) = w2 at *
  go_loopw [5, 14] (fun bad i wr => ∃ k : Nat, k ≤ n ∧ bad = .int .i64 0 ∧ i = .int .i64 k ∧ Hid (Below w2.heap.size w2 wr)) (fun _ i _ => n - (intOf i).toNat)
  case atStart => exact ⟨0, Nat.zero_le _, rfl, rfl, Lib.hid (Below.refl _ _)⟩
  case round =>
    obtain ⟨k, hk, rfl, rfl, hbw⟩ := hrel
    by_cases hlt : k < n
    · have hwk1 : IntKind.i64.wrap ((k : Int) + 1) = (k : Int) + 1 := by rw [IntKind.wrap_i64]; omega
      have hk0 : (0 : Int) ≤ (k : Int) := by omega
      have hkn : (k : Int) < (n : Int) := by omega
      obtain ⟨x, hxk⟩ : ∃ x, xs[k]? = some x := ⟨_, List.getElem?_eq_getElem (by rw [← HN.out]; exact hlt)⟩
      obtain ⟨kk, hkk⟩ := HX.out x (List.mem_of_getElem? hxk)
      have qx : wr.cell? ⟨b, k, none⟩ = some (.int .i64 x) := by
        have := HA.out k (.int .i64 x) (by simp [dC, hxk])
        rw [Nat.zero_add] at this
        exact bcell (bthen B2.out hbw.out) this
      have HI := Lib.hid (Node_ok x kk ns ls va vb vc wr (GG.out.below (bthen B2.out hbw.out)) hkk)
      have f0 := bcell hbw.out d0
      have f1 := bcell hbw.out d1
      have f2 := bcell hbw.out d2
      clear hxk hkk d0 d1 d2
      go_wp2_with fail
      with_reducible refine (HI.out).mono ?_
      rintro e w3 ⟨rfl, hb3⟩
      have B3 := Lib.hid (bthen hbw.out hb3)
      clear hb3 qx f0 f1 f2
      go_wp2_with (refine wpList_storeN rfl 41 (.tmp 8) (.tmp 22) rfl rfl w3.heap.size (cNd ⟨x⟩).toArray rfl rfl 41 _ (heap_at rfl) info41s rfl (by simp [Value.oneCell', cNd]) ?_; intro w4 hz hbb hn9 hs4; have b4 := below_storeA hbb; have B4 := Lib.hid (bthen B3.out b4); clear b4 hz hbb hn9 hs4)
      go_roundw
      case rel => exact ⟨k + 1, by omega, rfl, by go_num, B4⟩
      case measure => simp [intOf]; omega
    · have hkn : k = n := by omega
      subst hkn
      have BR := Lib.hid (bthen B2.out hbw.out)
      clear d0 d1 d2 hbw hlt hk B2
      go_wp2_with fail
      go_loopw [37] (fun i wx => ∃ q : Nat, q ≤ k ∧ i = .int .i64 q ∧ Hid (wx = wr)) (fun i _ => k - (intOf i).toNat)
      case atStart => exact ⟨0, Nat.zero_le _, rfl, Lib.hid rfl⟩
      case round =>
        obtain ⟨q, hq, rfl, hwx⟩ := hrel
        have hwx' := hwx.out
        subst hwx'
        by_cases hlt : q < k
        · have hwk1 : IntKind.i64.wrap ((q : Int) + 1) = (q : Int) + 1 := by rw [IntKind.wrap_i64]; omega
          have hk0 : (0 : Int) ≤ (q : Int) := by omega
          have hkn : (q : Int) < (k : Int) := by omega
          obtain ⟨x, hxk⟩ : ∃ x, xs[q]? = some x := ⟨_, List.getElem?_eq_getElem (by rw [← HN.out]; exact hlt)⟩
          obtain ⟨kk, hkk⟩ := HX.out x (List.mem_of_getElem? hxk)
          have qx : wr.cell? ⟨b, q, none⟩ = some (.int .i64 x) := by
            have := HA.out q (.int .i64 x) (by simp [dC, hxk])
            rw [Nat.zero_add] at this
            exact bcell BR.out this
          have hr := rng_of (GG.out.rng hkk)
          have hx0 : ¬ x < 0 := by omega
          have hx1 : ¬ 127 < x := by omega
          clear hxk hkk hr
          go_wp2_with fail
          go_roundw
          case rel => exact ⟨q + 1, by omega, by go_num, by first | trivial | exact Lib.hid rfl⟩
          case measure => simp [intOf]; omega
        · have hqn : q = k := by omega
          subst hqn
          clear hlt hq
          go_wp2_with fail
          go_ret
          exact ⟨rfl, BR.out⟩

theorem fld99 (u0 u1 u2 u3 : Value) (w : World) : (Instr.field 99 (.agg #[u0, u1, u2, u3]) 1).run Try.prog w = .ok u1 w := by
  kernel_rfl
theorem oks_rng {a : Int} (h : rng 0 127 a = true) : oks a = true := by have := rng_of h; simp [oks]; omega
set_option maxRecDepth 100000 in
set_option maxHeartbeats 8000000 in
theorem Dist_ok (a b : Int) (ka kb : Nat) (ns : List Nd) (ls : List Lk) (va vb vc : Value) (ds : List Int) (w : World) (g : GX w va vb vc ns ls) (hka : ns[ka]? = some ⟨a⟩) (hkb : ns[kb]? = some ⟨b⟩) (ht : treeP (viewL ls) a = some ds) :
    Calls Try.prog 42 #[.agg #[va, vb, vc], .int .i64 a, .int .i64 b] w fun e w' => (∃ z, e = .returned (.tuple #[.int .i64 z, .int .i64 0])) ∧ Below w.heap.size w w' := by
  have ha := oks_rng (g.rng hka)
  have hb := oks_rng (g.rng hkb)
  have GG := Lib.hid g
  have HOF := Lib.hid (fun w2 (g : GX w2 va vb vc ns ls) => full_Of_ok ns ls va vb vc w2 g.sa g.sb (by have := g.len; omega) (by have := g.snd.ll; omega) (fun x hx => by
    obtain ⟨i, hi⟩ := List.mem_iff_getElem?.1 hx
    exact oks_rng (g.snd.nr i x hi)) (fun l hl => by
    obtain ⟨i, hi⟩ := List.mem_iff_getElem?.1 hl
    obtain ⟨h1, h2, -⟩ := g.snd.lr i l hi
    exact ⟨oks_rng (g.snd.at h1), oks_rng (g.snd.at h2)⟩))
  have HTR := Lib.hid (fun V vs w2 (H : Vw V w2 vs (viewL ls)) => Tree_ok vs (viewL ls) a ds V w2 H ha ht (fun j xs hx => Nat.le_trans (viewL_small ls j xs hx) (by have := g.snd.ll; omega)))
  have HND := Lib.hid (fun bl w2 (g : GX w2 va vb vc ns ls) (hat : AtL w2 bl 0 (dC [a, b])) => fnodes_ok [a, b] ns ls va vb vc bl w2 g hat (by simp) (fun x hx => by
    simp only [List.mem_cons, List.not_mem_nil, or_false] at hx
    rcases hx with rfl | rfl
    · exact ⟨ka, hka⟩
    · exact ⟨kb, hkb⟩))
  simp only [oks, Bool.and_eq_true, decide_eq_true_eq] at hb
  obtain ⟨m, rfl⟩ : ∃ m : Nat, b = (m : Int) := ⟨b.toNat, by omega⟩
  have hm0 : (0 : Int) ≤ (m : Int) := by omega
  have hm1 : (m : Int) < 128 := by omega
  have M8 := Lib.hid (show m < 128 by omega)
  obtain ⟨z, hz⟩ : ∃ z, z = w.heap.size := ⟨_, rfl⟩
  have HZ := Lib.hid hz
  clear g ha hb hka hkb ht
  go_enter Try.func42, Try.ntmps42
  go_wp2_with fail
  rw [← hz]
  clear hz
  have b1 : Below w.heap.size w ((w.alloc (.cells #[va, vb, vc] 33)).alloc (.cells #[.int .i64 a, .int .i64 (m : Int)] 3)) := ((Below.refl _ _).alloc (Nat.le_refl _) _).alloc (by simp) _
  have k0 : ((w.alloc (.cells #[va, vb, vc] 33)).alloc (.cells #[.int .i64 a, .int .i64 (m : Int)] 3)).heap[z]? = some (.cells #[va, vb, vc] 33 (0, 0)) := heap_keep ((Below.refl _ _).alloc (Nat.le_refl _) _) (heap_at HZ.out)
  have k2 : AtL ((w.alloc (.cells #[va, vb, vc] 33)).alloc (.cells #[.int .i64 a, .int .i64 (m : Int)] 3)) (z + 1) 0 (dC [a, (m : Int)]) := AtL_heap (heap_at (by rw [HZ.out]; simp))
  generalize ((w.alloc (.cells #[va, vb, vc] 33)).alloc (.cells #[.int .i64 a, .int .i64 (m : Int)] 3)) = wa at *
  refine (HND.out _ wa (GG.out.below b1) k2).mono ?_
  rintro e w2 ⟨rfl, hb2⟩
  have B2 := Lib.hid (bthen b1 hb2)
  have K2 := heap_keep hb2 k0
  have c0 : w2.cell? ⟨z, 0, none⟩ = some va := by rw [cell_of_row w2 _ 0 _ _ _ K2]; rfl
  have c1 : w2.cell? ⟨z, 1, none⟩ = some vb := by rw [cell_of_row w2 _ 1 _ _ _ K2]; rfl
  have c2 : w2.cell? ⟨z, 2, none⟩ = some vc := by rw [cell_of_row w2 _ 2 _ _ _ K2]; rfl
  clear b1 k0 k2 hb2 K2 HND
  go_wp2_with fail
  refine (HOF.out w2 (GG.out.below B2.out)).mono ?_
  rintro e w3 ⟨⟨V, vs, rfl, hV, HV⟩, hb3⟩
  have B3 := Lib.hid (bthen B2.out hb3)
  have HV' := Lib.hid HV
  clear hb3 HV hV c0 c1 c2 HOF
  go_wp2_with fail
  refine (HTR.out V vs w3 HV'.out).mono ?_
  rintro e w4 ⟨⟨gD, vP, vH, rfl, hgD, hat, hlen⟩, hb4⟩
  have B4 := Lib.hid (bthen B3.out hb4)
  obtain ⟨z0, hz0⟩ : ∃ z0, ds[m]? = some z0 := ⟨_, List.getElem?_eq_getElem (by rw [hlen]; exact M8.out)⟩
  have qd : w4.cell? ⟨gD, m, none⟩ = some (.int .i64 z0) := by
    have := hat m (.int .i64 z0) (by simp [dC, hz0])
    rwa [Nat.zero_add] at this
  clear hb4 hat hlen hz0 hgD
  go_wp2_with (simp only [fld99])
  go_ret2
  exact ⟨⟨_, rfl⟩, B4.out⟩

end Go.Proofs.Ytpklcefiabjplaa
