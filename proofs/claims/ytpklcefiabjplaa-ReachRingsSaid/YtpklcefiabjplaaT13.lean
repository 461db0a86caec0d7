/- The law of the rings: awake and its walk; conditions as stated. -/
import Derived.Test.YtpklcefiabjplaaM4
namespace Go.Proofs.Ytpklcefiabjplaa
open Go.ChangeShapes Go.WideShapes Go.ChangeAt Go.RowKit
set_option linter.unusedVariables false
set_option linter.unusedSimpArgs false
attribute [local go_sem] Og.Opt Og.OpY

attribute [local go_sem] Og.Opt Og.OpY
attribute [local go_sem] eqB25'
theorem gxR {n : Nat} {c : Int} (F : RingF n c) (h22 : n ≤ 22) {w : World} {va vb : Value} {B : Nat} (h1 : w.ownsRow B 41 3 va n ((nsR n).flatMap cNd)) (h2 : w.ownsRow B 43 4 vb (lsR n c).length ((lsR n c).flatMap cLk)) : GX w va vb (.slice none 0 0) (nsR n) (lsR n c) :=
  ⟨Sl_of_row cNd_len (by omega) (own_lower h1 (Nat.zero_le _)) (nsR_l n), Sl_of_row cLk_len (by omega) (own_lower h2 (Nat.zero_le _)) rfl, Sl.nil, F.snd, by rw [nsR_l]; omega⟩
theorem nsR_get {n k : Nat} (h : k < n) : (nsR n)[k]? = some ⟨((k + 1 : Nat) : Int)⟩ := by
  unfold nsR
  rw [List.getElem?_map, List.getElem?_range h]
  rfl
theorem ringRelay {n : Nat} {c : Int} (F : RingF n c) (h3 : 3 ≤ n) {w : World} {va vb vc : Value} (g : GX w va vb vc (nsR n) (lsR n c)) :
    Calls Try.prog 6 #[.agg #[va, vb, vc], .int .i64 1, .int .i64 2] w fun e w' => e = .returned (.tuple #[.agg #[.int .u64 (loM (XR n)), .int .u64 (hiM (XR n))], .int .i64 0]) ∧ Below w.heap.size w w' := by
  have h := Relay_ok 1 2 c 0 0 (fun r => sL c (dU n r)) (nsR n) (lsR n c) va vb vc w g ⟨0, nsR_get (by omega)⟩ ⟨1, nsR_get (by omega)⟩ F.k0 F.hat F.hh
  rw [F.hr] at h
  exact h
theorem ringRef {n : Nat} {c : Int} (F : RingF n c) (h3 : 3 ≤ n) {w : World} {va vb vc : Value} (g : GX w va vb vc (nsR n) (lsR n c)) :
    Calls Try.prog 8 #[.agg #[va, vb, vc], .int .i64 1, .int .i64 2] w fun e w' => e = .returned (.tuple #[.agg #[.int .u64 (loM (XR n)), .int .u64 (hiM (XR n))], .int .i64 0]) ∧ Below w.heap.size w w' := by
  have h := rRelay_ok 1 2 (nsR n) (lsR n c) va vb vc w (tkA n) (tkB n) g ⟨_, List.mem_of_getElem? (nsR_get (show 0 < n by omega)), rfl⟩ ⟨_, List.mem_of_getElem? (nsR_get (show 1 < n by omega)), rfl⟩ ⟨_, List.mem_of_getElem? F.k0, rfl, rfl⟩ F.tk F.tk2
  rw [F.hf] at h
  exact h
set_option maxRecDepth 100000 in
set_option maxHeartbeats 8000000 in
theorem awakeR_ok (w : World) : Calls Try.prog 9 #[] w fun e w' => e = .returned (.bool true) ∧ Below w.heap.size w w' := by
  have F : RingF 5 1 := ringF (by omega) (by omega) (by omega) (by omega)
  have HRI := Lib.hid (ring_ok 5 1 (by omega) (by omega) w)
  have HRE : Hid (∀ (w2 : World) (va vb : Value), GX w2 va vb (.slice none 0 0) (nsR 5) (lsR 5 1) → Calls Try.prog 6 #[.agg #[va, vb, .slice none 0 0], .int .i64 1, .int .i64 2] w2 fun e w' => e = .returned (.tuple #[.agg #[.int .u64 16, .int .u64 0], .int .i64 0]) ∧ Below w2.heap.size w2 w') := Lib.hid (fun w2 va vb g => by
    have h := ringRelay F (by omega) g
    have e1 : loM (XR 5) = 16 := by decide
    have e2 : hiM (XR 5) = 0 := by decide
    rw [e1, e2] at h
    exact h)
  have HF := Lib.hid F
  clear F
  go_enter Try.func9, Try.ntmps9
  go_wp2_with fail
  refine (HRI.out).mono ?_
  rintro e w1 ⟨⟨va, vb, vc, rfl, h1, h2, rfl⟩, hb1⟩
  have G1 := Lib.hid (gxR HF.out (by omega) h1 h2)
  have B1 := Lib.hid hb1
  clear h1 h2 hb1
  go_wp2_with fail
  refine (HRE.out _ _ _ G1.out).mono ?_
  rintro e w2 ⟨rfl, hb2⟩
  have B2 := Lib.hid (bthen B1.out hb2)
  clear hb2
  go_wp2_with (first | (refine wpList_storeN rfl 25 (.tmp 1) (.tmp 6) rfl rfl w2.heap.size #[.int .u64 16, .int .u64 0] rfl rfl 25 _ (heap_at rfl) info25s rfl (by simp [Value.oneCell']) ?_; intro w3 hz hb hn hs; have y0 : w3.cell? ⟨w2.heap.size, 0, none⟩ = some (.int .u64 16) := (by rw [cell_of_row _ _ 0 _ _ _ hz]; rfl); have y1 : w3.cell? ⟨w2.heap.size, 1, none⟩ = some (.int .u64 0) := (by rw [cell_of_row _ _ 1 _ _ _ hz]; rfl); have B3 := Lib.hid (bthen B2.out (below_storeA hb)); clear hz hb hn hs))
  go_ret
  exact ⟨rfl, B3.out⟩
theorem XR_lt {n : Nat} (h3 : 3 ≤ n) (h22 : n ≤ 22) : XR n < 2 ^ 128 := by
  by_cases h : n % 2 = 1
  · exact (XR_odd h3 h22 h).1
  · rw [XR_even h]; omega
theorem law_n {n : Nat} (h : n ≤ 22) : ∃ m : Nat, m = (n + 3) / 2 ∧ m < 128 ∧ Int.tmod (n : Int) 2 = ((n % 2 : Nat) : Int) ∧ wrap64 ((n : Int) + 3) = (n : Int) + 3 ∧ IntKind.i64.wrap ((n : Int) + 3) = (n : Int) + 3 ∧
    Int.tdiv ((n : Int) + 3) 2 = (m : Int) ∧ ((n : Int) + 3) / 2 = (m : Int) ∧ wrap64 (m : Int) = (m : Int) ∧ IntKind.i64.wrap (m : Int) = (m : Int) := by
  refine ⟨(n + 3) / 2, rfl, by omega, ?_, ?_, ?_, ?_, by omega, ?_, ?_⟩
  · rw [Int.tmod_eq_emod_of_nonneg (by omega)]; rfl
  · unfold wrap64; omega
  · rw [IntKind.wrap_i64]; omega
  · rw [Int.tdiv_eq_ediv_of_nonneg (by omega)]; omega
  · have hk : (n + 3) / 2 ≤ 13 := by omega
    generalize (n + 3) / 2 = k at hk
    unfold wrap64; omega
  · have hk : (n + 3) / 2 ≤ 13 := by omega
    generalize (n + 3) / 2 = k at hk
    rw [IntKind.wrap_i64]; omega
set_option maxRecDepth 100000 in
set_option maxHeartbeats 16000000 in
theorem Rings_ok (z1 z2 : Int) (h10 : 0 ≤ z1) (h11 : z1 ≤ 65535) (h20 : 0 ≤ z2) (h21 : z2 ≤ 65535) (w : World) : Calls Try.prog 3 #[.int .u16 z1, .int .u16 z2] w fun e w' => e = .returned (.bool true) ∧ Below w.heap.size w w' := by
  have HAW := Lib.hid awakeR_ok
  go_enter Try.func3, Try.ntmps3
  go_wp2_with fail
  obtain ⟨n, hn⟩ : ∃ n : Nat, z1 % 20 + 3 = (n : Int) := ⟨(z1 % 20 + 3).toNat, by omega⟩
  obtain ⟨c, hcz⟩ : ∃ c : Int, z2 % 500 + 1 = c := ⟨_, rfl⟩
  rw [hn, hcz]
  have hn3 : 3 ≤ n := by omega
  have hn22 : n ≤ 22 := by omega
  have hc1 : 1 ≤ c := by omega
  have hc5 : c ≤ 500 := by omega
  obtain ⟨m, hmm, hm8, hm, hw3, hv3, hq, hq2, hwm, hvm⟩ := law_n hn22
  have HM8 := Lib.hid hm8
  have F : RingF n c := ringF hn3 hn22 hc1 hc5
  have HRI := Lib.hid (fun w2 => ring_ok n c hn3 (Nat.le_trans hn22 (by decide)) w2)
  have HRP := Lib.hid (fun w2 va vb (g : GX w2 va vb (.slice none 0 0) (nsR n) (lsR n c)) => ringRelay F hn3 g)
  have HRR := Lib.hid (fun w2 va vb (g : GX w2 va vb (.slice none 0 0) (nsR n) (lsR n c)) => ringRef F hn3 g)
  have HF := Lib.hid F
  have HODD : Hid (n % 2 = 1 → XR n < 2 ^ 128 ∧ (listM (XR n)).length = 1 ∧ (XR n).testBit ((n + 3) / 2) = true) := Lib.hid (fun h => XR_odd hn3 hn22 h)
  have HEV : Hid (¬ n % 2 = 1 → XR n = 0) := Lib.hid (fun h => XR_even h)
  have H22 := Lib.hid hn22
  have HX8 : Hid (XR n < 2 ^ 128) := Lib.hid (XR_lt hn3 hn22)
  obtain ⟨X, hX⟩ : ∃ X, X = XR n := ⟨_, rfl⟩
  rw [← hX] at HRP HRR HODD HEV HX8
  rw [← hmm] at HODD
  clear F hX hn h10 h11 hmm hm8 hn3 hn22 hc1 hc5
  refine (HRI.out _).mono ?_
  rintro e w1 ⟨⟨va, vb, vc, rfl, h1, h2, rfl⟩, hb1⟩
  have G1 := Lib.hid (gxR HF.out H22.out h1 h2)
  have B1 := Lib.hid hb1
  clear h1 h2 hb1
  go_wp2_with fail
  refine (HRP.out _ _ _ G1.out).mono ?_
  rintro e w2 ⟨rfl, hb2⟩
  have B2 := Lib.hid (bthen B1.out hb2)
  clear hb2 G1 B1
  go_wp2_with (first | (refine wpList_storeN rfl 25 (.tmp 6) (.tmp 22) rfl rfl w2.heap.size (cM X).toArray rfl rfl 25 _ (heap_at rfl) info25s rfl (by simp [Value.oneCell', cM]) ?_; intro w3 hz hb hn hs; have Z6 := Lib.hid hz; have B3 := Lib.hid (bthen B2.out (below_storeA hb)); clear hz hb hn hs))
  obtain ⟨g6, hg6⟩ : ∃ g6, g6 = w2.heap.size := ⟨_, rfl⟩
  rw [← hg6] at Z6
  rw [← hg6]
  clear hg6
  refine (HRI.out _).mono ?_
  rintro e w4 ⟨⟨va2, vb2, vc2, rfl, h1, h2, rfl⟩, hb4⟩
  have G4 := Lib.hid (gxR HF.out H22.out h1 h2)
  have B4 := Lib.hid (bthen B3.out hb4)
  have Z64 := Lib.hid (heap_keep hb4 Z6.out)
  clear h1 h2 hb4 B3 Z6
  go_wp2_with fail
  refine (HRR.out _ _ _ G4.out).mono ?_
  rintro e w5 ⟨rfl, hb5⟩
  have B5 := Lib.hid (bthen B4.out hb5)
  have Z65 := Lib.hid (heap_keep hb5 Z64.out)
  clear hb5 G4 B4 Z64
  go_wp2_with (first | (refine wpList_storeN rfl 25 (.tmp 8) (.tmp 32) rfl rfl w5.heap.size (cM X).toArray rfl rfl 25 _ (heap_at rfl) info25s rfl (by simp [Value.oneCell', cM]) ?_; intro w6 hz hb hn hs; have Z8 := Lib.hid hz; have Z66 := Lib.hid (heap_keep (below_storeA hb) Z65.out); have B6 := Lib.hid (bthen B5.out (below_storeA hb)); clear hz hb hn hs))
  obtain ⟨g8, hg8⟩ : ∃ g8, g8 = w5.heap.size := ⟨_, rfl⟩
  rw [← hg8] at Z8
  rw [← hg8]
  clear hg8
  refine (HAW.out _).mono ?_
  rintro e w7 ⟨rfl, hb7⟩
  have Z67 := Lib.hid (heap_keep hb7 Z66.out)
  have Z87 := Lib.hid (heap_keep hb7 Z8.out)
  have B7 := Lib.hid (bthen B6.out hb7)
  have y0 : w7.cell? ⟨g6, 0, none⟩ = some (.int .u64 (loM X)) := by rw [cell_of_row _ _ 0 _ _ _ Z67.out]; rfl
  have y1 : w7.cell? ⟨g6, 1, none⟩ = some (.int .u64 (hiM X)) := by rw [cell_of_row _ _ 1 _ _ _ Z67.out]; rfl
  have y2 : w7.cell? ⟨g8, 0, none⟩ = some (.int .u64 (loM X)) := by rw [cell_of_row _ _ 0 _ _ _ Z87.out]; rfl
  have y3 : w7.cell? ⟨g8, 1, none⟩ = some (.int .u64 (hiM X)) := by rw [cell_of_row _ _ 1 _ _ _ Z87.out]; rfl
  clear hb7 Z66 Z8 Z65 B5 B6 Z87
  by_cases hodd : n % 2 = 1
  · rw [hodd] at hm
    have HLE := Lib.hid (fun w9 => rLen_ok X HX8.out w9)
    have hlen := (HODD.out hodd).2.1
    rw [hlen] at HLE
    have HHA := Lib.hid (fun w9 => rHas_ok X m HX8.out HM8.out w9)
    rw [(HODD.out hodd).2.2] at HHA
    unfold mV at HLE HHA
    clear hlen hodd
    go_wp2_with (first | (refine wpList_loadL rfl 25 (.tmp 6) rfl g6 0 (.agg #[.int .u64 (loM X), .int .u64 (hiM X)]) rfl (cldM Z67.out) ?_))
    refine (HLE.out _).mono ?_
    rintro e w8 ⟨rfl, hb8⟩
    have B8 := Lib.hid (bthen B7.out hb8)
    replace y0 := bcell hb8 y0
    replace y1 := bcell hb8 y1
    clear hb8 y2 y3
    go_wp2_with fail
    refine (HHA.out _).mono ?_
    rintro e w9 ⟨rfl, hb9⟩
    have B9 := Lib.hid (bthen B8.out hb9)
    clear hb9 y0 y1
    go_wp2_with fail
    go_ret
    exact ⟨rfl, B9.out⟩
  · have hz : n % 2 = 0 := (Nat.mod_two_eq_zero_or_one n).resolve_right hodd
    rw [hz] at hm
    have hX0 := HEV.out hodd
    have hl0 : loM X = 0 := by rw [hX0]; rfl
    have hh0 : hiM X = 0 := by rw [hX0]; rfl
    clear hodd hz hX0
    go_wp2_with (first | (refine wpList_loadL rfl 25 (.tmp 6) rfl g6 0 (.agg #[.int .u64 (loM X), .int .u64 (hiM X)]) rfl (cldM Z67.out) ?_))
    go_ret
    exact ⟨rfl, B7.out⟩

end Go.Proofs.Ytpklcefiabjplaa
