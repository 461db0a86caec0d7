/- The reference: In, costOk, smallOk, linkAhead, Ok, FindNode, FindLink, Over; conditions as stated. -/
import Derived.Test.YtpklcefiabjplaaT3
import Derived.Test.YtpklcefiabjplaaR0
namespace Go.Proofs.Ytpklcefiabjplaa
open Go.ChangeShapes Go.WideShapes Go.ChangeAt Go.RowKit
set_option linter.unusedVariables false
set_option linter.unusedSimpArgs false
attribute [local go_sem] Og.Opt Og.OpY

attribute [local go_sem] Og.Opt Og.OpY
set_option maxRecDepth 100000 in
theorem rIn_ok (n : Int) (w : World) : Calls Try.prog 54 #[.int .i64 n] w fun e w' => e = .returned (.bool (rng 0 127 n)) ∧ Below w.heap.size w w' := by
  cases t0 : decide (0 ≤ n) <;> cases t1 : decide (n ≤ 127) <;>
  · go_enter Try.func54, Try.ntmps54
    go_wp2_with fail
    go_ret
    exact ⟨by simp [rng, t0, t1], Below.refl _ _⟩
set_option maxRecDepth 100000 in
theorem rcost_ok (n : Int) (w : World) : Calls Try.prog 90 #[.int .i64 n] w fun e w' => e = .returned (.bool (rng 1 65535 n)) ∧ Below w.heap.size w w' := by
  cases t0 : decide (1 ≤ n) <;> cases t1 : decide (n ≤ 65535) <;>
  · go_enter Try.func90, Try.ntmps90
    go_wp2_with fail
    go_ret
    exact ⟨by simp [rng, t0, t1], Below.refl _ _⟩
set_option maxRecDepth 100000 in
theorem rsmall_ok (n : Int) (w : World) : Calls Try.prog 91 #[.int .i64 n] w fun e w' => e = .returned (.bool (rng 0 65535 n)) ∧ Below w.heap.size w w' := by
  cases t0 : decide (0 ≤ n) <;> cases t1 : decide (n ≤ 65535) <;>
  · go_enter Try.func91, Try.ntmps91
    go_wp2_with fail
    go_ret
    exact ⟨by simp [rng, t0, t1], Below.refl _ _⟩

def ahd (p q : Lk) : Bool := decide (p.f < q.f) || (decide (p.f = q.f) && decide (p.t < q.t))
theorem ahd_of {p q : Lk} (h : cmpL p q < 0) : ahd p q = true := by
  unfold cmpL orz sg at h
  unfold ahd
  simp only [Bool.or_eq_true, Bool.and_eq_true, decide_eq_true_eq]
  repeat' split at h
  all_goals omega
set_option maxRecDepth 100000 in
set_option maxHeartbeats 4000000 in
theorem rahead_ok (p q : Lk) (w : World) : Calls Try.prog 92 #[.agg #[.int .i64 p.f, .int .i64 p.t, .int .i64 p.c, .int .i64 p.d], .agg #[.int .i64 q.f, .int .i64 q.t, .int .i64 q.c, .int .i64 q.d]] w fun e w' => e = .returned (.bool (ahd p q)) ∧ Below w.heap.size w w' := by
  obtain ⟨p1, p2, p3, p4⟩ := p
  obtain ⟨q1, q2, q3, q4⟩ := q
  have B1 : Hid (Below w.heap.size w ((w.alloc (.cells #[.int .i64 p1, .int .i64 p2, .int .i64 p3, .int .i64 p4] 43)).alloc (.cells #[.int .i64 q1, .int .i64 q2, .int .i64 q3, .int .i64 q4] 43))) := Lib.hid (((Below.refl _ _).alloc (Nat.le_refl _) _).alloc (by simp) _)
  by_cases h1 : p1 = q1
  · subst h1
    have hlt : ¬ p1 < p1 := by omega
    cases t2 : decide (p2 < q2) <;>
    · go_enter Try.func92, Try.ntmps92
      go_wp2_with fail
      go_ret
      exact ⟨by simp [ahd, t2], B1.out⟩
  · cases t0 : decide (p1 < q1) <;>
    · go_enter Try.func92, Try.ntmps92
      go_wp2_with fail
      all_goals go_ret
      all_goals exact ⟨by simp [ahd, t0, h1], B1.out⟩
set_option maxHeartbeats 400000 in
theorem rpart_ok (w : World) : Calls Try.prog 136 #[.float .f64 0] w fun e w' => e = .returned (.tuple #[.int .i64 0, .bool true]) ∧ Below w.heap.size w w' := by
  have e1 : (FloatKind.f64.format.order 0 13920626448202203136 == some .gt || FloatKind.f64.format.order 0 13920626448202203136 == some .eq) = true := by decide +kernel
  have e2 : (FloatKind.f64.format.order 0 4697254411347427328 == some .gt) = false := by decide +kernel
  have hc : ∀ w, (convert 92 3 (.float .f64 0)).run Try.prog w = .ok (.int .i64 0) w := fun w => run_convert_float_int w 92 3 .f64 .i64 0 0 (by rw [Try.underlying92]; rfl) Try.underlying3 (by decide +kernel)
  have hd : ∀ w, (convert 3 92 (.int .i64 0)).run Try.prog w = .ok (.float .f64 (floatOfInt .f64 0)) w := fun w => run_convert_int_float w 3 92 .i64 .f64 0 (by rw [Try.underlying3]; rfl) Try.underlying92
  have e0 : floatOfInt .f64 0 = 0 := by decide +kernel
  rw [e0] at hd
  have e3 : (FloatKind.f64.format.order 0 0 == some .eq) = true := by decide +kernel
  go_enter Try.func136, Try.ntmps136
  go_wp2_with (first | simp only [hc] | simp only [hd])
  go_ret2
  exact ⟨rfl, Below.refl _ _⟩
theorem cinfo173s : (Try.prog.info? 173).map (·.size) = some 2 := by kernel_rfl
theorem csize173 (w : World) : (sizeOf 173).run Try.prog w = .ok 2 w := by kernel_rfl
theorem cisAgg173 (w : World) : (isAgg 173).run Try.prog w = .ok true w := by kernel_rfl
set_option maxRecDepth 100000 in
set_option maxHeartbeats 4000000 in
theorem rSpot_ok (w : World) : Calls Try.prog 121 #[.complex .f64 0 0] w fun e w' => e = .returned (.tuple #[.agg #[.int .i64 0, .int .i64 0], .bool true]) ∧ Below w.heap.size w w' := by
  have b1 : Below w.heap.size w (w.alloc (.cells #[.int .i64 0, .int .i64 0] 173)) := (Below.refl _ _).alloc (Nat.le_refl _) _
  have k1 : (w.alloc (.cells #[.int .i64 0, .int .i64 0] 173)).heap[w.heap.size]? = some (.cells #[.int .i64 0, .int .i64 0] 173 (0, 0)) := heap_at rfl
  obtain ⟨z, hz⟩ : ∃ z, z = w.heap.size := ⟨_, rfl⟩
  have HP := Lib.hid rpart_ok
  go_enter Try.func121, Try.ntmps121
  go_wp2_with fail
  rw [← hz] at k1 ⊢
  generalize (w.alloc (.cells #[.int .i64 0, .int .i64 0] 173)) = wa at *
  have HZ := Lib.hid hz
  clear hz
  refine (HP.out _).mono ?_
  rintro e w1 ⟨rfl, h1⟩
  have B1 := Lib.hid (bthen b1 h1)
  have K1 := Lib.hid (heap_keep h1 k1)
  clear b1 k1 h1
  go_wp2_with fail
  refine (HP.out _).mono ?_
  rintro e w2 ⟨rfl, h2⟩
  have B2 := Lib.hid (bthen B1.out h2)
  have K2 := Lib.hid (heap_keep h2 K1.out)
  clear h2 B1 K1
  go_wp2_with (first | (refine wpList_storeN rfl 173 (.tmp 2) (.tmp 29) rfl rfl z #[.int .i64 0, .int .i64 0] rfl rfl 173 _ K2.out cinfo173s rfl (by simp [Value.oneCell']) ?_; intro w9 hz9 hb9 hn9 hs9; have Z9 := Lib.hid hz9; have D9 := Lib.hid (B2.out.trans (hb9 _ (by have := HZ.out; omega))); clear hz9 hb9 hn9 hs9))
  refine bodyPost_ret (results_cell_tmp1' rfl rfl (run_loadL (cs := [.int .i64 0, .int .i64 0]) cisAgg173 csize173 rfl (AtL_heap Z9.out))) rfl ?_
  exact ⟨rfl, D9.out⟩
set_option maxRecDepth 100000 in
set_option maxHeartbeats 4000000 in
theorem rOk_ok (w : World) : Calls Try.prog 89 #[.complex .f64 0 0] w fun e w' => e = .returned (.bool true) ∧ Below w.heap.size w w' := by
  have HP := Lib.hid rSpot_ok
  go_enter Try.func89, Try.ntmps89
  go_wp2_with fail
  refine (HP.out _).mono ?_
  rintro e w1 ⟨rfl, h1⟩
  have B1 := Lib.hid h1
  clear h1
  go_wp2_with (first | (refine wpList_storeN rfl 173 (.tmp 3) (.tmp 8) rfl rfl w1.heap.size #[.int .i64 0, .int .i64 0] rfl rfl 173 _ (heap_at rfl) cinfo173s rfl (by simp [Value.oneCell']) ?_; intro w9 hz9 hb9 hn9 hs9; have D9 := Lib.hid (bthen B1.out (below_storeA hb9)); clear hz9 hb9 hn9 hs9))
  go_ret
  exact ⟨rfl, D9.out⟩
/-- the place of a node, or -1 -/
def fndN (ns : List Nd) (a : Int) : Int := if ns.findIdx (fun x => x.i == a) < ns.length then (ns.findIdx (fun x => x.i == a) : Int) else -1
def fndL (ls : List Lk) (a b : Int) : Int := if ls.findIdx (fun x => x.f == a && x.t == b) < ls.length then (ls.findIdx (fun x => x.f == a && x.t == b) : Int) else -1
theorem fndN_nn {ns : List Nd} {a : Int} (h : ∃ n ∈ ns, n.i = a) : ¬ fndN ns a < 0 := by
  obtain ⟨n, hn, rfl⟩ := h
  have : ns.findIdx (fun x => x.i == n.i) < ns.length := List.findIdx_lt_length_of_exists ⟨n, hn, by simp⟩
  unfold fndN
  rw [if_pos this]
  omega
theorem fndL_nn {ls : List Lk} {a b : Int} (h : ∃ l ∈ ls, l.f = a ∧ l.t = b) : ¬ fndL ls a b < 0 := by
  obtain ⟨n, hn, rfl, rfl⟩ := h
  have : ls.findIdx (fun x => x.f == n.f && x.t == n.t) < ls.length := List.findIdx_lt_length_of_exists ⟨n, hn, by simp⟩
  unfold fndL
  rw [if_pos this]
  omega
theorem fnd_here {α : Type} {p : α → Bool} {xs : List α} {k : Nat} {x : α} (hk : k ≤ xs.findIdx p) (hx : xs[k]? = some x) (hp : p x = true) : xs.findIdx p = k := by
  obtain ⟨hl, he⟩ := List.getElem?_eq_some_iff.1 hx
  apply Classical.byContradiction
  intro hc
  have := List.not_of_lt_findIdx (p := p) (xs := xs) (i := k) (by omega)
  rw [he, hp] at this
  cases this
theorem fnd_next {α : Type} {p : α → Bool} {xs : List α} {k : Nat} {x : α} (hk : k ≤ xs.findIdx p) (hx : xs[k]? = some x) (hp : p x = false) : k + 1 ≤ xs.findIdx p := by
  obtain ⟨hl, he⟩ := List.getElem?_eq_some_iff.1 hx
  apply Classical.byContradiction
  intro hc
  have h1 : xs.findIdx p = k := by omega
  have h2 : xs.findIdx p < xs.length := by omega
  have := List.findIdx_getElem (p := p) (xs := xs) (w := h2)
  have e : xs[xs.findIdx p] = x := by
    have : xs[xs.findIdx p]? = some x := by rw [h1]; exact hx
    exact (List.getElem?_eq_some_iff.1 this).2
  rw [e, hp] at this
  cases this

set_option maxRecDepth 100000 in
set_option maxHeartbeats 4000000 in
theorem rFindNode_ok (ns : List Nd) (ls : List Lk) (va vb vc : Value) (a : Int) (w : World) (hs : Sl cNd 3 0 w va ns) (hl : ns.length ≤ 10000) : Calls Try.prog 55 #[.agg #[va, vb, vc], .int .i64 a] w fun e w' => e = .returned (.int .i64 (fndN ns a)) ∧ Below w.heap.size w w' := by
  obtain ⟨A, c, rfl, hr, -⟩ := hs
  obtain ⟨n, hn⟩ : ∃ n, n = ns.length := ⟨_, rfl⟩
  rw [← hn] at hl ⊢
  have HN := Lib.hid hn
  have HR := Lib.hid hr
  obtain ⟨z, hz⟩ : ∃ z, z = w.heap.size := ⟨_, rfl⟩
  have b1 : Below w.heap.size w (w.alloc (.cells #[.slice A n c, vb, vc] 33)) := (Below.refl _ _).alloc (Nat.le_refl _) _
  have k1 : (w.alloc (.cells #[.slice A n c, vb, vc] 33)).heap[z]? = some (.cells #[.slice A n c, vb, vc] 33 (0, 0)) := heap_at hz
  clear hr hn
  go_enter Try.func55, Try.ntmps55
  go_wp2_with fail
  rw [← hz]
  generalize (w.alloc (.cells #[.slice A n c, vb, vc] 33)) = wa at *
  have q0 : wa.cell? ⟨z, 0, none⟩ = some (.slice A n c) := by rw [cell_of_row _ _ 0 _ _ _ k1]; rfl
  have B1 := Lib.hid b1
  clear b1 k1 hz
  go_loopw [5] (fun i wr => ∃ k : Nat, k ≤ n ∧ i = .int .i64 k ∧ Hid (k ≤ ns.findIdx (fun x => x.i == a)) ∧ Hid (wr = wa)) (fun i _ => n - (intOf i).toNat)
  case atStart => exact ⟨0, Nat.zero_le _, rfl, Lib.hid (Nat.zero_le _), Lib.hid rfl⟩
  case round =>
    obtain ⟨k, hk, rfl, hf, hw⟩ := hrel
    have hw := hw.out
    subst hw
    by_cases hlt : k < n
    · have hwk1 : IntKind.i64.wrap ((k : Int) + 1) = (k : Int) + 1 := by rw [IntKind.wrap_i64]; omega
      have hk0 : (0 : Int) ≤ (k : Int) := by omega
      have hkn : (k : Int) < (n : Int) := by omega
      obtain ⟨x, hxk⟩ : ∃ x, ns[k]? = some x := ⟨_, List.getElem?_eq_getElem (by rw [← HN.out]; exact hlt)⟩
      obtain ⟨b0, o0, rfl, hat⟩ := HR.out k x hxk
      have q1 : wr.cell? ⟨b0, o0 + k * 3, none⟩ = some (.int .i64 x.i) := by have := hat 0 _ rfl; exact bcell B1.out this
      have HX := Lib.hid hxk
      clear hxk hat
      by_cases he : x.i = a
      · have HE : Hid (fndN ns a = (k : Int)) := Lib.hid (by have h1 := fnd_here hf.out HX.out (by simp [he]); unfold fndN; rw [h1, if_pos (by have := HN.out; omega)])
        go_wp2_with fail
        go_ret
        exact ⟨by rw [HE.out]; rfl, B1.out⟩
      · have HF : Hid (k + 1 ≤ ns.findIdx (fun x => x.i == a)) := Lib.hid (fnd_next hf.out HX.out (by simp [he]))
        go_wp2_with fail
        go_roundw
        case rel => exact ⟨k + 1, by omega, by go_num, HF, Lib.hid trivial⟩
        case measure => simp [intOf]; omega
    · have hkn : k = n := by omega
      have hkf : ¬ (k : Int) < (n : Int) := by omega
      have HE : Hid (fndN ns a = -1) := Lib.hid (by have h1 := hf.out; have h2 := HN.out; unfold fndN; rw [if_neg (by omega)])
      go_wp2_with fail
      go_ret
      exact ⟨by rw [HE.out]; rfl, B1.out⟩

set_option maxRecDepth 100000 in
set_option maxHeartbeats 4000000 in
theorem rFindLink_ok (ns : List Nd) (ls : List Lk) (va vb vc : Value) (a b : Int) (w : World) (hs : Sl cLk 4 0 w vb ls) (hl : ls.length ≤ 10000) : Calls Try.prog 25 #[.agg #[va, vb, vc], .int .i64 a, .int .i64 b] w fun e w' => e = .returned (.int .i64 (fndL ls a b)) ∧ Below w.heap.size w w' := by
  obtain ⟨A, c, rfl, hr, -⟩ := hs
  obtain ⟨n, hn⟩ : ∃ n, n = ls.length := ⟨_, rfl⟩
  rw [← hn] at hl ⊢
  have HN := Lib.hid hn
  have HR := Lib.hid hr
  obtain ⟨z, hz⟩ : ∃ z, z = w.heap.size := ⟨_, rfl⟩
  have b1 : Below w.heap.size w (w.alloc (.cells #[va, .slice A n c, vc] 33)) := (Below.refl _ _).alloc (Nat.le_refl _) _
  have k1 : (w.alloc (.cells #[va, .slice A n c, vc] 33)).heap[z]? = some (.cells #[va, .slice A n c, vc] 33 (0, 0)) := heap_at hz
  clear hr hn
  go_enter Try.func25, Try.ntmps25
  go_wp2_with fail
  rw [← hz]
  generalize (w.alloc (.cells #[va, .slice A n c, vc] 33)) = wa at *
  have q0 : wa.cell? ⟨z, 1, none⟩ = some (.slice A n c) := by rw [cell_of_row _ _ 1 _ _ _ k1]; rfl
  have B1 := Lib.hid b1
  clear b1 k1 hz
  go_loopw [7] (fun i wr => ∃ k : Nat, k ≤ n ∧ i = .int .i64 k ∧ Hid (k ≤ ls.findIdx (fun x => x.f == a && x.t == b)) ∧ Hid (wr = wa)) (fun i _ => n - (intOf i).toNat)
  case atStart => exact ⟨0, Nat.zero_le _, rfl, Lib.hid (Nat.zero_le _), Lib.hid rfl⟩
  case round =>
    obtain ⟨k, hk, rfl, hf, hw⟩ := hrel
    have hw := hw.out
    subst hw
    by_cases hlt : k < n
    · have hwk1 : IntKind.i64.wrap ((k : Int) + 1) = (k : Int) + 1 := by rw [IntKind.wrap_i64]; omega
      have hk0 : (0 : Int) ≤ (k : Int) := by omega
      have hkn : (k : Int) < (n : Int) := by omega
      obtain ⟨x, hxk⟩ : ∃ x, ls[k]? = some x := ⟨_, List.getElem?_eq_getElem (by rw [← HN.out]; exact hlt)⟩
      obtain ⟨b0, o0, rfl, hat⟩ := HR.out k x hxk
      have q1 : wr.cell? ⟨b0, o0 + k * 4, none⟩ = some (.int .i64 x.f) := by have := hat 0 _ rfl; exact bcell B1.out this
      have q2 : wr.cell? ⟨b0, o0 + k * 4 + 1, none⟩ = some (.int .i64 x.t) := by have := hat 1 _ rfl; exact bcell B1.out this
      have HX := Lib.hid hxk
      clear hxk hat
      by_cases he : x.f = a
      · by_cases he2 : x.t = b
        · have HE : Hid (fndL ls a b = (k : Int)) := Lib.hid (by have h1 := fnd_here hf.out HX.out (by simp [he, he2]); unfold fndL; rw [h1, if_pos (by have := HN.out; omega)])
          go_wp2_with fail
          go_ret
          exact ⟨by rw [HE.out]; rfl, B1.out⟩
        · have HF : Hid (k + 1 ≤ ls.findIdx (fun x => x.f == a && x.t == b)) := Lib.hid (fnd_next hf.out HX.out (by simp [he2]))
          go_wp2_with fail
          go_roundw
          case rel => exact ⟨k + 1, by omega, by go_num, HF, Lib.hid trivial⟩
          case measure => simp [intOf]; omega
      · have HF : Hid (k + 1 ≤ ls.findIdx (fun x => x.f == a && x.t == b)) := Lib.hid (fnd_next hf.out HX.out (by simp [he]))
        go_wp2_with fail
        go_roundw
        case rel => exact ⟨k + 1, by omega, by go_num, HF, Lib.hid trivial⟩
        case measure => simp [intOf]; omega
    · have hkn : k = n := by omega
      have hkf : ¬ (k : Int) < (n : Int) := by omega
      have HE : Hid (fndL ls a b = -1) := Lib.hid (by have h1 := hf.out; have h2 := HN.out; unfold fndL; rw [if_neg (by omega)])
      go_wp2_with fail
      go_ret
      exact ⟨by rw [HE.out]; rfl, B1.out⟩

theorem fndN_lt {ns : List Nd} {a : Int} : fndN ns a < ns.length := by unfold fndN; split <;> omega
theorem fndN_m {ns : List Nd} {a : Int} : fndN ns a = -1 ∨ 0 ≤ fndN ns a := by unfold fndN; split <;> omega
set_option maxRecDepth 100000 in
set_option maxHeartbeats 4000000 in
theorem rOver_ok (ns : List Nd) (ls : List Lk) (va vb vc : Value) (a : Int) (w : World) (hs : Sl cNd 3 0 w va ns) (hl : ns.length ≤ 10000) : Calls Try.prog 30 #[.agg #[va, vb, vc], .int .i64 a] w fun e w' => e = .returned (.bool false) ∧ Below w.heap.size w w' := by
  have hFN := Lib.hid (fun w2 (hb : Below w.heap.size w w2) => rFindNode_ok ns ls va vb vc a w2 (hs.below hb) hl)
  obtain ⟨A, c, rfl, hr, -⟩ := hs
  have HR := Lib.hid hr
  obtain ⟨z, hz⟩ : ∃ z, z = w.heap.size := ⟨_, rfl⟩
  obtain ⟨n, hn⟩ : ∃ n, n = ns.length := ⟨_, rfl⟩
  have b1 : Below w.heap.size w (w.alloc (.cells #[.slice A ns.length c, vb, vc] 33)) := (Below.refl _ _).alloc (Nat.le_refl _) _
  have k1 : (w.alloc (.cells #[.slice A ns.length c, vb, vc] 33)).heap[z]? = some (.cells #[.slice A ns.length c, vb, vc] 33 (0, 0)) := heap_at hz
  rw [← hn] at hFN b1 k1 ⊢
  have HN := Lib.hid hn
  clear hr hn
  have K1 := Lib.hid k1
  have B1 := Lib.hid b1
  have HZ := Lib.hid hz
  go_enter Try.func30, Try.ntmps30
  go_wp2_with fail
  with_reducible refine (hFN.out _ B1.out).mono ?_
  rintro e w1 ⟨rfl, h1⟩
  have B2 := Lib.hid (bthen B1.out h1)
  have K2 := heap_keep h1 K1.out
  have q0 : w1.cell? ⟨w.heap.size, 0, none⟩ = some (.slice A n c) := by rw [← HZ.out, cell_of_row _ _ 0 _ _ _ K2]; rfl
  clear h1 K2 k1 b1 hz
  rcases fndN_m (ns := ns) (a := a) with h | h
  · rw [h]
    clear q0
    go_wp2_with fail
    go_ret
    exact ⟨rfl, B2.out⟩
  · have hlt := fndN_lt (ns := ns) (a := a)
    rw [← HN.out] at hlt
    obtain ⟨k, hk⟩ : ∃ k : Nat, fndN ns a = (k : Int) := ⟨(fndN ns a).toNat, by omega⟩
    rw [hk] at hlt ⊢
    obtain ⟨x, hxk⟩ : ∃ x, ns[k]? = some x := ⟨_, List.getElem?_eq_getElem (by rw [← HN.out]; omega)⟩
    obtain ⟨b0, o0, rfl, hat⟩ := HR.out k x hxk
    have q1 : w1.cell? ⟨b0, o0 + k * 3 + 1, none⟩ = some (.bool false) := by have := hat 1 _ rfl; exact bcell B2.out this
    have hk0 : (0 : Int) ≤ (k : Int) := by omega
    clear hk hxk hat h
    go_wp2_with fail
    go_ret
    exact ⟨rfl, B2.out⟩

end Go.Proofs.Ytpklcefiabjplaa
