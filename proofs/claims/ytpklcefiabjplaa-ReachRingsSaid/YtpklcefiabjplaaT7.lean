/- The reference: Dists; conditions as stated. -/
import Derived.Test.YtpklcefiabjplaaT6
namespace Go.Proofs.Ytpklcefiabjplaa
open Go.ChangeShapes Go.WideShapes Go.ChangeAt Go.RowKit
set_option linter.unusedVariables false
set_option linter.unusedSimpArgs false
attribute [local go_sem] Og.Opt Og.OpY

attribute [local go_sem] Og.Opt Og.OpY
theorem own_kind' {w : World} {B m n : Nat} {e : TypeId} {v : Value} {xs : List Value} (h : w.ownsRow B e m v n xs) : ∀ g, v.ownBlock = some g → ∃ c fz, w.heap[g]? = some (.cells c e fz) := by
  intro g hg
  rcases h.2 with ⟨rfl, _⟩ | ⟨g', cap, cur, rfl, _, hgg, _⟩
  · simp [Value.ownBlock] at hg
  · simp [Value.ownBlock] at hg
    subst hg
    exact ⟨cur, (0, 0), hgg⟩
/-- rows of two kinds are apart -/
theorem own_apart {w : World} {B m n B' m' n' : Nat} {e e' : TypeId} {v v' : Value} {xs xs' : List Value} (h : w.ownsRow B e m v n xs) (h' : w.ownsRow B' e' m' v' n' xs') (he : e ≠ e') : v.ownBlock = none ∨ v.ownBlock ≠ v'.ownBlock := by
  cases hv : v.ownBlock with
  | none => exact .inl rfl
  | some g =>
    right
    intro hc
    obtain ⟨c, fz, h1⟩ := own_kind' h g hv
    obtain ⟨c', fz', h2⟩ := own_kind' h' g hc.symm
    rw [h1] at h2
    injection h2 with h2
    injection h2 with _ h3 _
    exact he h3
theorem flatI_at (ds : List Int) (k : Nat) : (ds.flatMap cI)[k]? = (ds[k]?).map (Value.int .i64 ·) := by
  have := flat_get cI 1 cI_len (by omega) ds k
  rw [this, Nat.div_one, Nat.mod_one]
  cases ds[k]? <;> rfl
theorem flatT_at (ds : List Bool) (k : Nat) : (ds.flatMap cT)[k]? = (ds[k]?).map (Value.bool ·) := by
  have := flat_get cT 1 cT_len (by omega) ds k
  rw [this, Nat.div_one, Nat.mod_one]
  cases ds[k]? <;> rfl
theorem flatI_set (ds : List Int) (k : Nat) (z : Int) : (ds.flatMap cI).set k (.int .i64 z) = (ds.set k z).flatMap cI := by
  have e : ∀ ds : List Int, ds.flatMap cI = ds.map (Value.int .i64 ·) := fun ds => by induction ds <;> simp_all [cI, List.flatMap_cons]
  rw [e, e, List.map_set]
/-- one link's turn, one round, all rounds of the reference's distances -/
def relaxR (d : List Int) (l : Lk) : List Int := if clp (dsum (d.getD l.f.toNat 0) l.c) < clp (d.getD l.t.toNat 0) then d.set l.t.toNat (wrap64 (d.getD l.f.toNat 0 + l.c)) else d
def roundR (ls : List Lk) (d : List Int) : List Int := ls.foldl relaxR d
def itR (ls : List Lk) (d : List Int) : Nat → List Int
  | 0 => d
  | k + 1 => roundR ls (itR ls d k)
def startR (root : Nat) : List Int := (List.replicate 128 (1073741824 : Int)).set root 0
def distR (n : Nat) (ls : List Lk) (root : Nat) : List Int := itR ls (startR root) n
theorem relaxR_len (d : List Int) (l : Lk) : (relaxR d l).length = d.length := by unfold relaxR; split <;> simp
theorem foldR_len : ∀ (ls : List Lk) (d : List Int), (ls.foldl relaxR d).length = d.length
  | [], d => rfl
  | l :: ls, d => by rw [List.foldl_cons, foldR_len ls, relaxR_len]
theorem itR_len (ls : List Lk) (d : List Int) : ∀ k, (itR ls d k).length = d.length
  | 0 => rfl
  | k + 1 => by rw [itR, roundR, foldR_len, itR_len]
theorem foldR_take {ls : List Lk} {d : List Int} {k : Nat} {l : Lk} (h : ls[k]? = some l) : (ls.take (k + 1)).foldl relaxR d = relaxR ((ls.take k).foldl relaxR d) l := by
  rw [List.take_add_one, h, List.foldl_append]
  rfl
theorem getD_some {d : List Int} {k : Nat} (h : k < d.length) : d[k]? = some (d.getD k 0) := by
  rw [List.getD_eq_getElem?_getD, List.getElem?_eq_getElem h]; rfl
theorem repl_snoc {α : Type} (x : α) (k : Nat) : List.replicate k x ++ [x] = List.replicate (k + 1) x := by rw [List.replicate_succ']
theorem own_form {w : World} {B m n : Nat} {e : TypeId} {v : Value} {xs : List Value} (h : w.ownsRow B e m v n xs) (h0 : 0 < n) : ∃ g c, v = .slice (some ⟨g, 0, none⟩) n c := by
  rcases h.2 with ⟨_, h1⟩ | ⟨g, cap, cur, hv, _⟩
  · omega
  · exact ⟨g, cap, hv⟩
/-- the reference's rows: distances and who is overloaded (nobody) -/
structure DR (B g1 c1 g2 c2 : Nat) (w : World) (ds : List Int) : Prop where
  d : w.ownsRow B 3 1 (.slice (some ⟨g1, 0, none⟩) 128 c1) 128 (ds.flatMap cI)
  o : w.ownsRow B 4 1 (.slice (some ⟨g2, 0, none⟩) 128 c2) 128 ((List.replicate 128 false).flatMap cT)
  l : ds.length = 128
theorem DR.below {B g1 c1 g2 c2 : Nat} {w w2 : World} {ds : List Int} (D : DR B g1 c1 g2 c2 w ds) (h : Below w.heap.size w w2) : DR B g1 c1 g2 c2 w2 ds := ⟨own_below D.d h, own_below D.o h, D.l⟩
theorem DR.at {B g1 c1 g2 c2 : Nat} {w : World} {ds : List Int} (D : DR B g1 c1 g2 c2 w ds) {k : Nat} (hk : k < 128) : w.cell? ⟨g1, k, none⟩ = some (.int .i64 (ds.getD k 0)) := by
  rw [D.d.cellAt k (by omega), flatI_at, getD_some (by rw [D.l]; exact hk)]; rfl
theorem DR.ov {B g1 c1 g2 c2 : Nat} {w : World} {ds : List Int} (D : DR B g1 c1 g2 c2 w ds) {k : Nat} (hk : k < 128) : w.cell? ⟨g2, k, none⟩ = some (.bool false) := by
  rw [D.o.cellAt k (by omega), flatT_at, List.getElem?_replicate, if_pos hk]; rfl
theorem DR.set {B g1 c1 g2 c2 : Nat} {w : World} {ds : List Int} (D : DR B g1 c1 g2 c2 w ds) (k : Nat) (z : Int) : DR B g1 c1 g2 c2 (w.setCell ⟨g1, k, none⟩ (.int .i64 z)) (ds.set k z) ∧ ∀ C, C ≤ B → Below C w (w.setCell ⟨g1, k, none⟩ (.int .i64 z)) := by
  obtain ⟨h1, h2⟩ := D.d.stored k (.int .i64 z)
  have hap := own_apart D.o D.d (by decide)
  refine ⟨⟨by rw [← flatI_set]; exact h1, D.o.kept h2 (by simpa [Value.ownBlock] using hap), by simpa using D.l⟩, fun C hC => ?_⟩
  have hlt := D.d.lt g1 rfl
  exact (Below.refl _ _).setCell (by simp only []; omega) _
theorem DR.fz {B g1 c1 g2 c2 : Nat} {w : World} {ds : List Int} (D : DR B g1 c1 g2 c2 w ds) (k : Nat) : w.frozen? ⟨g1, k, none⟩ = false := D.d.frozenAt k
set_option maxRecDepth 100000 in
set_option maxHeartbeats 16000000 in
theorem rDists_ok (root : Nat) (ns : List Nd) (ls : List Lk) (va vb vc : Value) (w : World) (g : GX w va vb vc ns ls) (hroot : root < 128) :
    Calls Try.prog 56 #[.agg #[va, vb, vc], .int .i64 root] w fun e w' => (∃ v, e = .returned v ∧ w'.ownsRow w.heap.size 3 1 v 128 ((distR ns.length ls root).flatMap cI)) ∧ Below w.heap.size w w' := by
  have HOV := Lib.hid (fun w2 (hb : Below w.heap.size w w2) (a : Int) => rOver_ok ns ls va vb vc a w2 (g.sa.below hb) (by have := g.len; omega))
  have HLS : Hid (∀ l ∈ ls, oks l.f = true ∧ oks l.t = true) := Lib.hid fun l hm => by
    obtain ⟨i, hi⟩ := List.mem_iff_getElem?.1 hm
    obtain ⟨h1, h2, -⟩ := g.snd.lr i l hi
    have a1 := rng_of (g.snd.at h1)
    have a2 := rng_of (g.snd.at h2)
    simp only [oks, Bool.and_eq_true, decide_eq_true_eq]
    omega
  have hl1 := g.len
  have hl2 := g.snd.ll
  obtain ⟨A1, c1, rfl, r1, -⟩ := g.sa
  obtain ⟨A2, c2, rfl, r2, -⟩ := g.sb
  obtain ⟨n1, hn1⟩ : ∃ n, n = ns.length := ⟨_, rfl⟩
  obtain ⟨n2, hn2⟩ : ∃ n, n = ls.length := ⟨_, rfl⟩
  rw [← hn1] at hl1 HOV ⊢
  rw [← hn2] at hl2 HOV ⊢
  have N2 := Lib.hid hn2
  have R2 := Lib.hid r2
  obtain ⟨z, hz⟩ : ∃ z, z = w.heap.size := ⟨_, rfl⟩
  obtain ⟨G, hG⟩ : ∃ G : Array Value, G = #[.slice A1 n1 c1, .slice A2 n2 c2, vc] := ⟨_, rfl⟩
  have b1 : Below w.heap.size w (w.alloc (.cells #[.slice A1 n1 c1, .slice A2 n2 c2, vc] 33)) := (Below.refl _ _).alloc (Nat.le_refl _) _
  have k1 : (w.alloc (.cells #[.slice A1 n1 c1, .slice A2 n2 c2, vc] 33)).heap[z]? = some (.cells #[.slice A1 n1 c1, .slice A2 n2 c2, vc] 33 (0, 0)) := heap_at hz
  have s1 : (w.alloc (.cells #[.slice A1 n1 c1, .slice A2 n2 c2, vc] 33)).heap.size = z + 1 := by rw [hz]; simp
  clear hn1 hn2 r1 r2 g
  go_enter Try.func56, Try.ntmps56
  go_wp2_with fail
  rw [← hz]
  generalize (w.alloc (.cells #[.slice A1 n1 c1, .slice A2 n2 c2, vc] 33)) = wa at *
  have HZ := Lib.hid hz
  have o1 : (wa.alloc (.cells #[] 3)).ownsRow (z + 1) 3 1 (.slice (some ⟨z + 1, 0, none⟩) 0 0) 0 [] := by have := fresh_row wa 3 1 (z + 1) (by omega); rw [s1] at this; exact this
  have s2 : (wa.alloc (.cells #[] 3)).heap.size = z + 1 + 1 := by simp [s1]
  have o2 : ((wa.alloc (.cells #[] 3)).alloc (.cells #[] 4)).ownsRow (z + 1) 4 1 (.slice (some ⟨z + 1 + 1, 0, none⟩) 0 0) 0 [] := by have := fresh_row (wa.alloc (.cells #[] 3)) 4 1 (z + 1) (by omega); rw [s2] at this; exact this
  have o3 := o1.alloc (.cells #[] 4)
  have b2 : Below wa.heap.size wa ((wa.alloc (.cells #[] 3)).alloc (.cells #[] 4)) := ((Below.refl _ _).alloc (Nat.le_refl _) _).alloc (by simp) _
  have BC := Lib.hid (bthen b1 b2)
  have KC := Lib.hid (heap_keep b2 k1)
  have SC : Hid (z + 1 ≤ ((wa.alloc (.cells #[] 3)).alloc (.cells #[] 4)).heap.size) := Lib.hid (by simp; omega)
  have O2 := Lib.hid o2
  have O3 := Lib.hid o3
  generalize ((wa.alloc (.cells #[] 3)).alloc (.cells #[] 4)) = wc at *
  clear b1 k1 s1 hz o1 s2 o2 o3 b2
  go_loopw [5, 6, 7] (fun u1 u2 i wr => ∃ (k : Nat) (v1 v2 : Value), k ≤ 128 ∧ v1 = u1 ∧ v2 = u2 ∧ i = .int .i64 k ∧ Hid (wr.ownsRow (z + 1) 3 1 v1 (List.replicate k (1073741824 : Int)).length ((List.replicate k (1073741824 : Int)).flatMap cI)) ∧ Hid (wr.ownsRow (z + 1) 4 1 v2 (List.replicate k false).length ((List.replicate k false).flatMap cT)) ∧ Hid (Below (z + 1) wc wr)) (fun _ _ i _ => 128 - (intOf i).toNat)
  case atStart => exact ⟨0, _, _, Nat.zero_le _, rfl, rfl, rfl, O3, O2, Lib.hid (Below.refl _ _)⟩
  case round =>
    obtain ⟨k, v1, v2, hk, rfl, rfl, rfl, ho1, ho2, hbw⟩ := hrel
    by_cases hlt : k < 128
    · have hwk1 : IntKind.i64.wrap ((k : Int) + 1) = (k : Int) + 1 := by rw [IntKind.wrap_i64]; omega
      have hk7 : (k : Int) ≤ 127 := by omega
      have SR := Lib.hid (Nat.le_trans SC.out hbw.out.size)
      have HL1 : Hid ((List.replicate k (1073741824 : Int)).length ≤ 1172812402926) := Lib.hid (by rw [List.length_replicate]; omega)
      have HL2 : Hid ((List.replicate k false).length ≤ 1172812402926) := Lib.hid (by rw [List.length_replicate]; omega)
      by_cases hkr : k = root
      · subst hkr
        go_wp2_with (first | (at_builtin; refine wpList_appG cI 1 73 3 8 cI_len cI_one (by omega) Try.underlying73 cinfo3 rfl (by omega) rfl (.tmp 17) (.tmp 18) rfl (z + 1) _ v1 (List.replicate k (1073741824 : Int)) 1073741824 rfl rfl (own_below ho1.out ((Below.refl _ _).alloc (Nat.le_refl _) _)) (heap_at rfl) HL1.out (alloc_le' SR.out) ?_; intro v5 w5 ho5 hg5; have b5 := app_below ho1.out SR.out hg5; have O15 := Lib.hid ho5; have B15 := Lib.hid (hbw.out.trans b5); have S15 := Lib.hid (Nat.le_trans SR.out b5.size); have O25' := Lib.hid ((ho2.out.alloc _).kept hg5 (own_apart (ho2.out.alloc _) (ho1.out.alloc (.cells #[] 3)) (by decide))); have BW5 := Lib.hid (BC.out.trans (B15.out.mono (by rw [HZ.out]; omega))); have KR5 := Lib.hid ((B15.out.block z (by omega)).trans KC.out); have y0 : w5.cell? ⟨z, 0, none⟩ = some (.slice A1 n1 c1) := (by rw [cell_of_row _ _ 0 _ _ _ KR5.out]; rfl); have y1 : w5.cell? ⟨z, 1, none⟩ = some (.slice A2 n2 c2) := (by rw [cell_of_row _ _ 1 _ _ _ KR5.out]; rfl); have y2 : w5.cell? ⟨z, 2, none⟩ = some vc := (by rw [cell_of_row _ _ 2 _ _ _ KR5.out]; rfl); clear ho5 hg5 b5) | (at_builtin; refine wpList_appG cT 1 145 4 1 cT_len cT_one (by omega) Try.underlying145 cinfo4 rfl (by omega) rfl (.tmp 20) (.tmp 29) rfl (z + 1) _ v2 (List.replicate k false) false rfl rfl (own_below O25'.out ((Below.refl _ _).alloc (Nat.le_refl _) _)) (heap_at rfl) HL2.out (alloc_le' S15.out) ?_; intro v7 w7 ho7 hg7; have b7 := app_below O25'.out S15.out hg7; have O25 := Lib.hid ho7; have B25 := Lib.hid (B15.out.trans b7); have O15 := Lib.hid ((O15.out.alloc _).kept hg7 (own_apart (O15.out.alloc _) (O25'.out.alloc (.cells #[] 4)) (by decide))); clear ho7 hg7 b7))
        go_roundw
        case rel => exact ⟨k + 1, _, _, by omega, rfl, rfl, by go_num, by rw [← repl_snoc]; exact O15, by rw [← repl_snoc]; exact O25, B25⟩
        case measure => simp [intOf]; omega
      · have hne : ¬ (k : Int) = (root : Int) := by omega
        have hne2 : ((k : Int) != (root : Int)) = true := by simpa using hne
        go_wp2_with (at_builtin; refine wpList_appG cI 1 73 3 8 cI_len cI_one (by omega) Try.underlying73 cinfo3 rfl (by omega) rfl (.tmp 17) (.tmp 18) rfl (z + 1) _ v1 (List.replicate k (1073741824 : Int)) 1073741824 rfl rfl (own_below ho1.out ((Below.refl _ _).alloc (Nat.le_refl _) _)) (heap_at rfl) HL1.out (alloc_le' SR.out) ?_; intro v5 w5 ho5 hg5; have b5 := app_below ho1.out SR.out hg5; have O15 := Lib.hid ho5; have B15 := Lib.hid (hbw.out.trans b5); have S15 := Lib.hid (Nat.le_trans SR.out b5.size); have O25' := Lib.hid ((ho2.out.alloc _).kept hg5 (own_apart (ho2.out.alloc _) (ho1.out.alloc (.cells #[] 3)) (by decide))); have BW5 := Lib.hid (BC.out.trans (B15.out.mono (by rw [HZ.out]; omega))); have KR5 := Lib.hid ((B15.out.block z (by omega)).trans KC.out); have y0 : w5.cell? ⟨z, 0, none⟩ = some (.slice A1 n1 c1) := (by rw [cell_of_row _ _ 0 _ _ _ KR5.out]; rfl); have y1 : w5.cell? ⟨z, 1, none⟩ = some (.slice A2 n2 c2) := (by rw [cell_of_row _ _ 1 _ _ _ KR5.out]; rfl); have y2 : w5.cell? ⟨z, 2, none⟩ = some vc := (by rw [cell_of_row _ _ 2 _ _ _ KR5.out]; rfl); clear ho5 hg5 b5)
        with_reducible refine (HOV.out _ BW5.out _).mono ?_
        rintro e w6 ⟨rfl, hb6⟩
        have O16 := Lib.hid (own_below O15.out hb6)
        have O26 := Lib.hid (own_below O25'.out hb6)
        have B16 := Lib.hid (B15.out.trans (below_low hb6 SC.out B15.out))
        have S16 := Lib.hid (Nat.le_trans S15.out hb6.size)
        clear hb6 O15 O25' B15 S15 BW5 KR5 y0 y1 y2
        go_wp2_with (at_builtin; refine wpList_appG cT 1 145 4 1 cT_len cT_one (by omega) Try.underlying145 cinfo4 rfl (by omega) rfl (.tmp 20) (.tmp 29) rfl (z + 1) _ v2 (List.replicate k false) false rfl rfl (own_below O26.out ((Below.refl _ _).alloc (Nat.le_refl _) _)) (heap_at rfl) HL2.out (alloc_le' S16.out) ?_; intro v7 w7 ho7 hg7; have b7 := app_below O26.out S16.out hg7; have O25 := Lib.hid ho7; have B25 := Lib.hid (B16.out.trans b7); have O15 := Lib.hid ((O16.out.alloc _).kept hg7 (own_apart (O16.out.alloc _) (O26.out.alloc (.cells #[] 4)) (by decide))); clear ho7 hg7 b7)
        go_roundw
        case rel => exact ⟨k + 1, _, _, by omega, rfl, rfl, by go_num, by rw [← repl_snoc]; exact O15, by rw [← repl_snoc]; exact O25, B25⟩
        case measure => simp [intOf]; omega
    · have hk8 : k = 128 := by omega
      have hke : (k : Int) = 128 := by omega
      rw [hke]
      rw [hk8] at ho1 ho2
      have hkf : ¬ ((128 : Int) ≤ 127) := by omega
      obtain ⟨g1, c3, rfl⟩ := own_form ho1.out (by simp)
      obtain ⟨g2, c4, rfl⟩ := own_form ho2.out (by simp)
      rw [List.length_replicate] at ho1 ho2
      simp only [List.length_replicate]
      have D0 : DR (z + 1) g1 c3 g2 c4 wr (List.replicate 128 (1073741824 : Int)) := ⟨ho1.out, ho2.out, by simp⟩
      clear ho1 ho2 hk hlt hke hk8 hG
      have y0 := D0.at hroot
      have fz := D0.fz root
      have D1 := D0.set root 0
      have E1 := Lib.hid D1.1
      have BB := Lib.hid (hbw.out.trans (D1.2 _ (Nat.le_refl _)))
      have hr0 : (0 : Int) ≤ (root : Int) := by omega
      have hr1 : (root : Int) < 128 := by omega
      clear D0 D1
      go_wp2_with fail
      generalize (wr.setCell ⟨g1, root, none⟩ (.int .i64 0)) = wd at *
      clear y0 fz hkf
      have E2 : Hid (DR (z + 1) g1 c3 g2 c4 wd (itR ls (startR root) 0)) := E1
      clear E1
      obtain ⟨st, hst⟩ : ∃ st, st = startR root := ⟨_, rfl⟩
      rw [← hst] at E2
      have HST : Hid (startR root = st) := Lib.hid hst.symm
      clear hst
      go_loopw [8] (fun i wr => ∃ j : Nat, j ≤ n1 ∧ i = .int .i64 j ∧ Hid (DR (z + 1) g1 c3 g2 c4 wr (itR ls st j)) ∧ Hid (Below (z + 1) wc wr)) (fun i _ => n1 - (intOf i).toNat)
      case atStart => exact ⟨0, Nat.zero_le _, rfl, E2, BB⟩
      case round =>
        clear E2 BB
        obtain ⟨j, hj, rfl, hD, hB⟩ := hrel
        have q0 : wr.cell? ⟨z, 0, none⟩ = some (.slice A1 n1 c1) := by rw [cell_of_row _ _ 0 _ _ _ ((hB.out.block z (by omega)).trans KC.out)]; rfl
        by_cases hlt : j < n1
        · have hwk1 : IntKind.i64.wrap ((j : Int) + 1) = (j : Int) + 1 := by rw [IntKind.wrap_i64]; omega
          have hkn : (j : Int) < (n1 : Int) := by omega
          obtain ⟨dj, hdj⟩ : ∃ dj, dj = itR ls st j := ⟨_, rfl⟩
          rw [← hdj] at hD
          have HDJ := Lib.hid hdj
          clear hdj
          go_wp2_with fail
          clear q0
          go_loopw [9] (fun i wr => ∃ k : Nat, k ≤ n2 ∧ i = .int .i64 k ∧ Hid (DR (z + 1) g1 c3 g2 c4 wr ((ls.take k).foldl relaxR dj)) ∧ Hid (Below (z + 1) wc wr)) (fun i _ => n2 - (intOf i).toNat)
          case atStart => exact ⟨0, Nat.zero_le _, rfl, hD, hB⟩
          case round =>
            clear hD hB
            obtain ⟨k, hk, rfl, hD, hB⟩ := hrel
            have KR := Lib.hid ((hB.out.block z (by omega)).trans KC.out)
            have SR := Lib.hid (Nat.le_trans SC.out hB.out.size)
            by_cases hlk : k < n2
            · have hvk1 : IntKind.i64.wrap ((k : Int) + 1) = (k : Int) + 1 := by rw [IntKind.wrap_i64]; omega
              have hk0 : (0 : Int) ≤ (k : Int) := by omega
              have hkm : (k : Int) < (n2 : Int) := by omega
              obtain ⟨l, hl⟩ : ∃ r, ls[k]? = some r := ⟨_, List.getElem?_eq_getElem (by rw [← N2.out]; exact hlk)⟩
              obtain ⟨b0, o0, rfl, hat⟩ := R2.out k l hl
              have r1 := Lib.hid (run_loadL isAgg43 size43 (cLk_len l) (hat.below (BC.out.trans (hB.out.mono (by rw [HZ.out]; omega)))))
              obtain ⟨hof, hot⟩ := HLS.out l (List.mem_of_getElem? hl)
              have HTK := Lib.hid (foldR_take (d := dj) hl)
              obtain ⟨f, t, c, dl⟩ := l
              obtain ⟨fn, hfn⟩ : ∃ m : Nat, f = (m : Int) := ⟨f.toNat, by simp only [oks, Bool.and_eq_true, decide_eq_true_eq] at hof; omega⟩
              obtain ⟨tn, htn⟩ : ∃ m : Nat, t = (m : Int) := ⟨t.toNat, by simp only [oks, Bool.and_eq_true, decide_eq_true_eq] at hot; omega⟩
              subst hfn htn
              have hf8 : fn < 128 := by simp only [oks, Bool.and_eq_true, decide_eq_true_eq] at hof; omega
              have ht8 : tn < 128 := by simp only [oks, Bool.and_eq_true, decide_eq_true_eq] at hot; omega
              have hf0 : (0 : Int) ≤ (fn : Int) := by omega
              have hf1 : (fn : Int) < 128 := by omega
              have ht0 : (0 : Int) ≤ (tn : Int) := by omega
              have ht1 : (tn : Int) < 128 := by omega
              obtain ⟨dk, hdk⟩ : ∃ dk, dk = (ls.take k).foldl relaxR dj := ⟨_, rfl⟩
              rw [← hdk] at hD HTK
              obtain ⟨x, hx⟩ : ∃ x, x = dk.getD fn 0 := ⟨_, rfl⟩
              obtain ⟨y, hy⟩ : ∃ y, y = dk.getD tn 0 := ⟨_, rfl⟩
              have HX := Lib.hid hx
              have HY := Lib.hid hy
              have T8 := Lib.hid ht8
              have F8 := Lib.hid hf8
              have q1 : wr.cell? ⟨z, 1, none⟩ = some (.slice (some ⟨b0, o0, none⟩) n2 c2) := by rw [cell_of_row _ _ 1 _ _ _ KR.out]; rfl
              clear hl hat hof hot hdk hx hy hf8 ht8
              go_wp2_with (first | (refine wpList_loadL rfl 43 (.tmp 51) rfl b0 (o0 + k * 4) (.agg #[.int .i64 fn, .int .i64 tn, .int .i64 c, .int .i64 dl]) rfl r1.out ?_) | (refine wpList_storeN rfl 43 (.tmp 10) (.tmp 52) rfl rfl wr.heap.size #[.int .i64 fn, .int .i64 tn, .int .i64 c, .int .i64 dl] rfl rfl 43 _ (heap_at rfl) info43s rfl (by simp [Value.oneCell']) ?_; intro w3 hz3 hb3 hn3 hs3; have b3 := below_storeA hb3; have ZL := Lib.hid hz3; have D3 := Lib.hid (hD.out.below b3); have B3 := Lib.hid (hB.out.trans (below_low b3 SC.out hB.out)); clear hz3 hb3 hn3 hs3 b3))
              obtain ⟨gz, hgz⟩ : ∃ gz, gz = wr.heap.size := ⟨_, rfl⟩
              rw [← hgz] at ZL
              rw [← hgz]
              have GZ := Lib.hid hgz
              clear hgz q1 r1 hD hB KR
              have HC : ∀ w5, Below w3.heap.size w3 w5 → w5.cell? ⟨gz, 0, none⟩ = some (.int .i64 fn) ∧ w5.cell? ⟨gz, 1, none⟩ = some (.int .i64 tn) ∧ w5.cell? ⟨gz, 2, none⟩ = some (.int .i64 c) ∧ w5.cell? ⟨g1, fn, none⟩ = some (.int .i64 x) ∧ w5.cell? ⟨g1, tn, none⟩ = some (.int .i64 y) ∧ w5.cell? ⟨g2, fn, none⟩ = some (.bool false) := fun w5 h5 => ⟨bcell h5 (by rw [cell_of_row _ _ 0 _ _ _ ZL.out]; rfl), bcell h5 (by rw [cell_of_row _ _ 1 _ _ _ ZL.out]; rfl), bcell h5 (by rw [cell_of_row _ _ 2 _ _ _ ZL.out]; rfl), bcell h5 (by rw [HX.out]; exact D3.out.at F8.out), bcell h5 (by rw [HY.out]; exact D3.out.at T8.out), bcell h5 (D3.out.ov F8.out)⟩
              have HS := Lib.hid (fun w2 => rSum_ok x c w2)
              have HLE := Lib.hid (fun w2 => rLess_ok (dsum x c) y w2)
              refine Og.walk_lit [[],[],[1],[0,2,1],[3,0,2,1],[4,3,0,2,1],[5,4,3,0,2,1],[6,5,4,3,0,2,1],[6,5,4,3,0,2,1],[8,6,5,4,3,0,2,1],[7,9,6,5,4,3,0,2,1,8],[10,6,7,9,5,4,3,0,2,1,8],[6,5,4,3,0,2,1],[12,6,5,4,3,0,2,1],[11,13,6,10,7,9,5,4,3,0,2,1,8,12],[6,5,4,3,0,2,1],[6,5,4,3,0,2,1],[16,6,5,4,3,0,2,1],[15,17,6,5,4,3,0,2,1,16],[18,6,15,17,5,4,3,0,2,1,16],[14,19,6,11,13,10,7,9,5,4,3,0,2,1,8,12,18,15,17,16],[6,20,5,4,3,0,2,1,14,19,11,13,10,7,9,8,12,18,15,17,16]] (fun w2 => Below w3.heap.size w3 w2) (fun w1 w2 => Below w1.heap.size w1 w2) (by kernel_rfl) (by kernel_rfl) (bdrew) ?_
              iterate 14 (refine Og.step_pure (fun _ => Below.refl _ _) ?_; apply Exists.intro; refine And.intro ?_ ?_; focus (intro vs w2 hC hk; have hm := HC w2 hC; revert hk; simp only [Og.KS, Og.K0, Og.Is, List.getD_cons_zero, List.getD_cons_succ, List.getD_nil, List.contains_cons, List.contains_nil, Nat.reduceAdd, Nat.reduceBEq, Bool.or_false, Bool.false_or, Bool.or_true, Bool.true_or, Bool.false_eq_true, false_implies, true_implies, true_and, and_true, forall_const]; intros; go_simp; rfl))
              refine Og.step_one ?_; apply Exists.intro; refine And.intro ?_ ?_; focus (intro vs w2 hC hk; have hm := HC w2 hC; revert hk; simp only [Og.KS, Og.K0, Og.Is, List.getD_cons_zero, List.getD_cons_succ, List.getD_nil, List.contains_cons, List.contains_nil, Nat.reduceAdd, Nat.reduceBEq, Bool.or_false, Bool.false_or, Bool.or_true, Bool.true_or, Bool.false_eq_true, false_implies, true_implies, true_and, and_true, forall_const]; intros; go_simp; with_reducible refine (HS.out _).mono ?_; rintro e w3 ⟨rfl, hb⟩; exact Og.RetV.mk ⟨bthen hC hb, hb, rfl⟩)
              iterate 5 (refine Og.step_pure (fun _ => Below.refl _ _) ?_; apply Exists.intro; refine And.intro ?_ ?_; focus (intro vs w2 hC hk; have hm := HC w2 hC; revert hk; simp only [Og.KS, Og.K0, Og.Is, List.getD_cons_zero, List.getD_cons_succ, List.getD_nil, List.contains_cons, List.contains_nil, Nat.reduceAdd, Nat.reduceBEq, Bool.or_false, Bool.false_or, Bool.or_true, Bool.true_or, Bool.false_eq_true, false_implies, true_implies, true_and, and_true, forall_const]; intros; go_simp; rfl))
              refine Og.step_one ?_; apply Exists.intro; refine And.intro ?_ ?_; focus (intro vs w2 hC hk; have hm := HC w2 hC; revert hk; simp only [Og.KS, Og.K0, Og.Is, List.getD_cons_zero, List.getD_cons_succ, List.getD_nil, List.contains_cons, List.contains_nil, Nat.reduceAdd, Nat.reduceBEq, Bool.or_false, Bool.false_or, Bool.or_true, Bool.true_or, Bool.false_eq_true, false_implies, true_implies, true_and, and_true, forall_const]; intros; go_simp; with_reducible refine (HLE.out _).mono ?_; rintro e w3 ⟨rfl, hb⟩; exact Og.RetV.mk ⟨bthen hC hb, hb, rfl⟩)
              refine Og.step_pure (fun _ => Below.refl _ _) ?_; apply Exists.intro; refine And.intro ?_ ?_; focus (intro vs w2 hC hk; have hm := HC w2 hC; revert hk; simp only [Og.KS, Og.K0, Og.Is, List.getD_cons_zero, List.getD_cons_succ, List.getD_nil, List.contains_cons, List.contains_nil, Nat.reduceAdd, Nat.reduceBEq, Bool.or_false, Bool.false_or, Bool.or_true, Bool.true_or, Bool.false_eq_true, false_implies, true_implies, true_and, and_true, forall_const]; intros; go_simp; rfl)
              intro vs w2 hC hk
              have hm := HC w2 hC
              simp only [Og.KS, Og.K0, Og.Is, List.getD_cons_zero, List.getD_cons_succ, List.getD_nil, List.contains_cons, List.contains_nil, Nat.reduceAdd, Nat.reduceBEq, Bool.or_false, Bool.false_or, Bool.or_true, Bool.true_or, Bool.false_eq_true, false_implies, true_implies, true_and, and_true, forall_const] at hk
              simp only [hk, Act.put, List.setIfInBounds_toArray, List.set_cons_zero, List.set_cons_succ]
              clear hk
              have B4 := Lib.hid (B3.out.trans (below_low hC SC.out B3.out))
              have D4 := Lib.hid (D3.out.below hC)
              have HC4 : ∀ w5, Below w2.heap.size w2 w5 → w5.cell? ⟨gz, 0, none⟩ = some (.int .i64 fn) ∧ w5.cell? ⟨gz, 1, none⟩ = some (.int .i64 tn) ∧ w5.cell? ⟨gz, 2, none⟩ = some (.int .i64 c) ∧ w5.cell? ⟨g1, fn, none⟩ = some (.int .i64 x) ∧ w5.cell? ⟨g1, tn, none⟩ = some (.int .i64 y) ∧ w5.cell? ⟨g2, fn, none⟩ = some (.bool false) := fun w5 h5 => HC w5 (bthen hC h5)
              clear hC HC hm HS HLE ZL D3 B3
              by_cases hle : clp (dsum x c) < clp y
              · rw [decide_eq_true hle]
                have HE : Hid ((ls.take (k + 1)).foldl relaxR dj = dk.set tn (wrap64 (x + c))) := Lib.hid (by rw [HTK.out]; unfold relaxR; simp only [Int.toNat_natCast]; rw [← HX.out, ← HY.out, if_pos hle])
                clear hle HTK
                obtain ⟨wq, rfl⟩ : ∃ wq : World, wq = w2 := ⟨_, rfl⟩
                go_wp2_with fail
                refine Og.Tail.walk_lit 12 [[],[],[1],[],[],[4],[3,5,4],[6,3,5,4],[],[8],[7,9,6,3,5,4,8],[0,2,1,3,4,5,6,7,8,9,10],[11,10,0,1,2,3,4,5,6,7,8,9]] (fun w2 => Below wq.heap.size wq w2) (fun w1 w2 => Below w1.heap.size w1 w2) (by kernel_rfl) (by kernel_rfl) (by kernel_rfl) (bdrew) ?_
                simp only [List.take_succ_cons, List.take_zero, List.drop_succ_cons, List.drop_zero]
                iterate 12 (refine Og.step_pure (fun _ => Below.refl _ _) ?_; apply Exists.intro; refine And.intro ?_ ?_; focus (intro vs w2 hC hk; have hm := HC4 w2 hC; revert hk; simp only [Og.KS, Og.K0, Og.Is, List.getD_cons_zero, List.getD_cons_succ, List.getD_nil, List.contains_cons, List.contains_nil, Nat.reduceAdd, Nat.reduceBEq, Bool.or_false, Bool.false_or, Bool.or_true, Bool.true_or, Bool.false_eq_true, false_implies, true_implies, true_and, and_true, forall_const]; intros; go_simp; rfl))
                intro vs w2 hC hk
                have hm := HC4 w2 hC
                simp only [Og.KS, Og.K0, Og.Is, List.getD_cons_zero, List.getD_cons_succ, List.getD_nil, List.contains_cons, List.contains_nil, Nat.reduceAdd, Nat.reduceBEq, Bool.or_false, Bool.false_or, Bool.or_true, Bool.true_or, Bool.false_eq_true, false_implies, true_implies, true_and, and_true, forall_const] at hk
                simp only [hk, Act.put, List.setIfInBounds_toArray, List.set_cons_zero, List.set_cons_succ]
                clear hk
                have B6 := Lib.hid (B4.out.trans (below_low hC SC.out B4.out))
                have D6 := Lib.hid (D4.out.below hC)
                have fz := D6.out.fz tn
                have y6 := hm.2.2.2.2.1
                have DS := D6.out.set tn (wrap64 (x + c))
                have D7 := Lib.hid DS.1
                have B7 := Lib.hid (B6.out.trans (DS.2 _ (Nat.le_refl _)))
                clear hC HC4 hm DS
                go_wp2_with fail
                go_roundw
                case rel => exact ⟨k + 1, by omega, by go_num, by rw [HE.out]; exact D7, B7⟩
                case measure => simp [intOf]; omega
              · rw [decide_eq_false hle]
                have HE : Hid ((ls.take (k + 1)).foldl relaxR dj = dk) := Lib.hid (by rw [HTK.out]; unfold relaxR; simp only [Int.toNat_natCast]; rw [← HX.out, ← HY.out, if_neg hle])
                clear hle HTK HC4
                go_wp2_with fail
                go_roundw
                case rel => exact ⟨k + 1, by omega, by go_num, by rw [HE.out]; exact D4, B4⟩
                case measure => simp [intOf]; omega
            · have hkn2 : k = n2 := by omega
              have hkf : ¬ ((k : Int) < (n2 : Int)) := by omega
              have q1 : wr.cell? ⟨z, 1, none⟩ = some (.slice A2 n2 c2) := by rw [cell_of_row _ _ 1 _ _ _ KR.out]; rfl
              have D5 : Hid (DR (z + 1) g1 c3 g2 c4 wr (itR ls st (j + 1))) := Lib.hid (by
                have h := hD.out
                rw [List.take_of_length_le (by rw [hkn2]; exact Nat.le_of_eq N2.out.symm), HDJ.out] at h
                exact h)
              clear hkn2
              go_wp2_with fail
              go_roundw
              case rel => exact ⟨j + 1, by omega, by go_num, D5, hB⟩
              case measure => simp [intOf]; omega
        · have hjn : j = n1 := by omega
          have hkf : ¬ ((j : Int) < (n1 : Int)) := by omega
          have DF : Hid (wr.ownsRow (z + 1) 3 1 (.slice (some ⟨g1, 0, none⟩) 128 c3) 128 ((itR ls st n1).flatMap cI)) := Lib.hid (by have := hD.out.d; rwa [hjn] at this)
          clear hjn hlt
          go_wp2_with fail
          go_ret
          refine ⟨⟨_, rfl, ?_⟩, ?_⟩
          · rw [← HZ.out]
            unfold distR
            rw [HST.out]
            exact own_lower DF.out (by omega)
          · exact BC.out.trans (hB.out.mono (by rw [HZ.out]; omega))

end Go.Proofs.Ytpklcefiabjplaa
