/- Floats of whole numbers below 2^53: read, sum, difference, product, order, truncation are exact. Plain lemmas over Ieee. -/
import Ieee.Arith
namespace PF
open Ieee

/-- the word of the whole number ±m -/
def fl (s : Bool) (m : Nat) : Nat := double.nearest s m 0

theorem fl_zero (s : Bool) : fl s 0 = double.word s 0 := by simp [fl, Format.nearest]

theorem cut_zero (s : Bool) (n : Nat) : Toward.even.cut s n 0 = n := by
  simp [Toward.cut, Nat.mod_one]

theorem log2_mul_pow (m k : Nat) (hm : 0 < m) : (m * 2 ^ k).log2 = m.log2 + k := by
  induction k with
  | zero => simp
  | succ k ih =>
    rw [Nat.pow_succ, ← Nat.mul_assoc, Nat.mul_comm _ 2, Nat.log2_two_mul]
    · rw [ih]; omega
    · have : 0 < m * 2 ^ k := Nat.mul_pos hm (Nat.two_pow_pos k)
      omega

theorem bnd_rung (L K B : Nat) (hL : L ≤ 52) (hK : K < 2 * B) : (L + 1022) * B + K ≤ 2047 * B := by
  have h : (L + 1022) * B ≤ 1074 * B := Nat.mul_le_mul_right _ (by omega)
  generalize (L + 1022) * B = X at *
  omega

/-- what 'nearest' gives at an exact value, its places any -/
theorem nearest_val (s : Bool) (m k : Nat) (hm : 0 < m) (h : m < 2 ^ 53) :
    double.nearest s (m * 2 ^ k) (-(k : Int)) = double.word s ((m.log2 + 1022) * 2 ^ 52 + m * 2 ^ (52 - m.log2)) := by
  have hL : m.log2 < 53 := (Nat.log2_lt (by omega)).2 h
  have hL1 : 2 ^ m.log2 ≤ m := Nat.log2_self_le (by omega)
  have hL2 : m < 2 ^ (m.log2 + 1) := Nat.lt_log2_self
  have hpos : 0 < m * 2 ^ k := Nat.mul_pos hm (Nat.two_pow_pos k)
  have hlast : max (-(k : Int) + ((m * 2 ^ k).log2 : Nat) - (double.fractionBits : Nat)) double.leastPlace = (m.log2 : Int) - 52 := by
    rw [log2_mul_pow m k hm]
    have : double.leastPlace = -1074 := by decide
    rw [this]; show max (-(k : Int) + ((m.log2 + k : Nat) : Int) - (52 : Nat)) (-1074) = _
    omega
  unfold Format.nearest
  rw [if_neg (by omega)]
  dsimp only
  rw [hlast]
  have hlp : double.leastPlace = -1074 := by decide
  have hbin : double.binade = 2 ^ 52 := rfl
  have hinf : double.infRung = 2047 * 2 ^ 52 := rfl
  rw [hlp, hbin, hinf]
  have hkept : Toward.even.cut s ((m * 2 ^ k) <<< (-(k : Int) - ((m.log2 : Int) - 52)).toNat) ((m.log2 : Int) - 52 - -(k : Int)).toNat = m * 2 ^ (52 - m.log2) := by
    by_cases hc : k + m.log2 ≤ 52
    · have e1 : (-(k : Int) - ((m.log2 : Int) - 52)).toNat = 52 - m.log2 - k := by omega
      have e2 : ((m.log2 : Int) - 52 - -(k : Int)).toNat = 0 := by omega
      rw [e1, e2, cut_zero, Nat.shiftLeft_eq, Nat.mul_assoc, ← Nat.pow_add]
      congr 2; omega
    · have e1 : (-(k : Int) - ((m.log2 : Int) - 52)).toNat = 0 := by omega
      have e2 : ((m.log2 : Int) - 52 - -(k : Int)).toNat = k - (52 - m.log2) := by omega
      rw [e1, e2, Nat.shiftLeft_zero]
      have hd : k - (52 - m.log2) ≤ (m * 2 ^ k).log2 + 2 := by rw [log2_mul_pow m k hm]; omega
      unfold Toward.cut
      dsimp only
      rw [Nat.min_eq_left hd, Nat.shiftLeft_eq, Nat.one_mul]
      have hsplit : m * 2 ^ k = m * 2 ^ (52 - m.log2) * 2 ^ (k - (52 - m.log2)) := by
        rw [Nat.mul_assoc, ← Nat.pow_add]; congr 2; omega
      rw [hsplit, Nat.mul_div_cancel _ (Nat.two_pow_pos _), Nat.mul_mod_left]
      have hp := Nat.two_pow_pos (k - (52 - m.log2))
      simp
  rw [hkept]
  have hK : m * 2 ^ (52 - m.log2) < 2 ^ 53 := by
    calc m * 2 ^ (52 - m.log2) < 2 ^ (m.log2 + 1) * 2 ^ (52 - m.log2) := Nat.mul_lt_mul_of_pos_right hL2 (Nat.two_pow_pos _)
      _ = 2 ^ 53 := by rw [← Nat.pow_add]; congr 1; omega
  have e3 : ((m.log2 : Int) - 52 - -1074).toNat = m.log2 + 1022 := by omega
  rw [e3, Nat.min_eq_left]
  exact bnd_rung _ _ _ (by omega) (by rw [← Nat.pow_succ']; exact hK)

theorem nearest_scaled (s : Bool) (m k : Nat) (h : m < 2 ^ 53) : double.nearest s (m * 2 ^ k) (-(k : Int)) = fl s m := by
  rcases Nat.eq_zero_or_pos m with rfl | hm
  · simp [fl, Format.nearest]
  · rw [nearest_val s m k hm h]
    have := nearest_val s m 0 hm h
    simp only [Nat.pow_zero, Nat.mul_one, Int.natCast_zero, Int.neg_zero] at this
    exact this.symm

theorem word_neg (s : Bool) (r : Nat) (h : r < 2 ^ 63) : (double.word s r / double.signWeight % 2 == 1) = s ∧ double.word s r % double.signWeight = r := by
  have hw : double.signWeight = 2 ^ 63 := by decide
  unfold Format.word
  rw [hw]
  cases s
  · simp only [Bool.false_eq_true, if_false]
    exact ⟨by rw [Nat.div_eq_of_lt h]; rfl, Nat.mod_eq_of_lt h⟩
  · simp only [if_true]
    refine ⟨?_, ?_⟩
    · rw [Nat.add_div_left _ (by decide), Nat.div_eq_of_lt h]; rfl
    · rw [Nat.add_mod_left, Nat.mod_eq_of_lt h]

theorem bnd_rung' (L K B : Nat) (hL : L ≤ 52) (hK : K < 2 * B) : (L + 1022) * B + K < 2047 * B := by
  have h : (L + 1022) * B ≤ 1074 * B := Nat.mul_le_mul_right _ (by omega)
  generalize (L + 1022) * B = X at *
  omega

theorem place_eq (L : Nat) (hL : L ≤ 52) : (-1074 : Int) + ((0 + (L + 1023) - 1 : Nat) : Int) = -((52 - L : Nat) : Int) := by omega

theorem rung_facts (L j B : Nat) :
    (L + 1022) * B + (B + j) = j + B * (L + 1023) ∧ ¬ (L + 1022) * B + (B + j) < B := by
  rw [Nat.mul_comm B, show L + 1023 = L + 1022 + 1 from rfl, Nat.succ_mul (L + 1022)]
  generalize (L + 1022) * B = X
  omega

theorem read_rung (s : Bool) (L K : Nat) (hL : L ≤ 52) (h1 : 2 ^ 52 ≤ K) (h2 : K < 2 * 2 ^ 52) :
    double.read (double.word s ((L + 1022) * 2 ^ 52 + K)) = .number s K (-((52 - L : Nat) : Int)) := by
  have hbin : double.binade = 2 ^ 52 := rfl
  have hinf : double.infRung = 2047 * 2 ^ 52 := rfl
  have hlp : double.leastPlace = -1074 := by decide
  have hb := bnd_rung L K (2 ^ 52) hL h2
  have hb' := bnd_rung' L K (2 ^ 52) hL h2
  obtain ⟨w1, w2⟩ := word_neg s ((L + 1022) * 2 ^ 52 + K) (Nat.lt_of_le_of_lt hb (by decide))
  obtain ⟨j, rfl⟩ : ∃ j, K = 2 ^ 52 + j := ⟨K - 2 ^ 52, (Nat.add_sub_cancel' h1).symm⟩
  have hj : j < 2 ^ 52 := by rw [Nat.two_mul] at h2; exact Nat.lt_of_add_lt_add_left h2
  obtain ⟨e1, r1⟩ := rung_facts L j (2 ^ 52)
  unfold Format.read
  dsimp only
  rw [w1, w2, hbin, hinf, hlp, if_neg r1, if_pos hb', e1, Nat.add_mul_mod_self_left, Nat.mod_eq_of_lt hj, Nat.add_mul_div_left _ _ (by decide), Nat.div_eq_of_lt hj, place_eq L hL]

/-- what a whole number's word reads as -/
theorem read_fl (s : Bool) (m : Nat) (h : m < 2 ^ 53) : ∃ k : Nat, double.read (fl s m) = .number s (m * 2 ^ k) (-(k : Int)) := by
  have hbin : double.binade = 2 ^ 52 := rfl
  have hinf : double.infRung = 2047 * 2 ^ 52 := rfl
  have hlp : double.leastPlace = -1074 := by decide
  rcases Nat.eq_zero_or_pos m with rfl | hm
  · obtain ⟨K, hK⟩ : ∃ K : Nat, K = 1074 := ⟨_, rfl⟩
    have hKl : (-1074 : Int) = -(K : Int) := by rw [hK]; rfl
    refine ⟨K, ?_⟩
    rw [fl_zero]
    obtain ⟨h1, h2⟩ := word_neg s 0 (by decide)
    unfold Format.read
    dsimp only
    rw [h1, h2, hbin, if_pos (by decide), hlp, Nat.zero_mul, hKl]
  · have hL : m.log2 < 53 := (Nat.log2_lt (by omega)).2 h
    have hL1 : 2 ^ m.log2 ≤ m := Nat.log2_self_le (by omega)
    have hL2 : m < 2 ^ (m.log2 + 1) := Nat.lt_log2_self
    have hf := nearest_val s m 0 hm h
    simp only [Nat.pow_zero, Nat.mul_one, Int.natCast_zero, Int.neg_zero] at hf
    refine ⟨52 - m.log2, ?_⟩
    unfold fl
    rw [hf]
    have hK : m * 2 ^ (52 - m.log2) < 2 ^ 53 := by
      calc m * 2 ^ (52 - m.log2) < 2 ^ (m.log2 + 1) * 2 ^ (52 - m.log2) := Nat.mul_lt_mul_of_pos_right hL2 (Nat.two_pow_pos _)
        _ = 2 ^ 53 := by rw [← Nat.pow_add]; congr 1; omega
    have hK2 : 2 ^ 52 ≤ m * 2 ^ (52 - m.log2) := by
      calc 2 ^ 52 = 2 ^ m.log2 * 2 ^ (52 - m.log2) := by rw [← Nat.pow_add]; congr 1; omega
        _ ≤ m * 2 ^ (52 - m.log2) := Nat.mul_le_mul_right _ hL1
    generalize m * 2 ^ (52 - m.log2) = K at *
    generalize hLL : m.log2 = L at *
    clear hf hL1 hL2
    exact read_rung s L K (by omega) hK2 (by rw [← Nat.pow_succ']; exact hK)

/-- x is the word of the whole number a (a zero may be negative) -/
def IsF (x : Nat) (a : Int) : Prop := ∃ s, x = fl s a.natAbs ∧ (a < 0 → s = true) ∧ (0 < a → s = false)

theorem signed_scaled (s : Bool) (m k j : Nat) : signed s (m * 2 ^ k) j = (if s then -(m : Int) else (m : Int)) * (2 : Int) ^ (k + j) := by
  unfold signed
  rw [Nat.shiftLeft_eq, Nat.mul_assoc, ← Nat.pow_add]
  cases s <;> simp [Int.neg_mul]

theorem val_of (s : Bool) (a : Int) (h1 : a < 0 → s = true) (h2 : 0 < a → s = false) : (if s then -(a.natAbs : Int) else a.natAbs) = a := by
  cases s
  · simp only [Bool.false_eq_true, if_false]
    have : ¬ a < 0 := fun h => by cases h1 h
    omega
  · simp only [if_true]
    have : ¬ 0 < a := fun h => by cases h2 h
    omega

theorem sum_write (s t : Bool) (m n k j : Nat) (a b : Int) (ha : (if s then -(m : Int) else m) = a) (hb : (if t then -(n : Int) else n) = b) (h : (a + b).natAbs < 2 ^ 53) :
    ∃ r, ((Datum.number s (m * 2 ^ k) (-(k : Int))).sum (.number t (n * 2 ^ j) (-(j : Int)))).map double.write = some r ∧ IsF r (a + b) := by
  have hp : (0 : Int) < 2 ^ (max k j) := by exact_mod_cast Nat.two_pow_pos (max k j)
  have etot : signed s (m * 2 ^ k) (-(k : Int) - min (-(k : Int)) (-(j : Int))).toNat + signed t (n * 2 ^ j) (-(j : Int) - min (-(k : Int)) (-(j : Int))).toNat = (a + b) * 2 ^ (max k j) := by
    rw [signed_scaled, signed_scaled, ha, hb]
    have e1 : k + (-(k : Int) - min (-(k : Int)) (-(j : Int))).toNat = max k j := by omega
    have e2 : j + (-(j : Int) - min (-(k : Int)) (-(j : Int))).toNat = max k j := by omega
    rw [e1, e2, Int.add_mul]
  have ebase : min (-(k : Int)) (-(j : Int)) = -((max k j : Nat) : Int) := by omega
  refine ⟨_, rfl, ?_⟩
  rw [etot, ebase]
  have eabs : ((a + b) * 2 ^ (max k j)).natAbs = (a + b).natAbs * 2 ^ (max k j) := by
    rw [Int.natAbs_mul, Int.natAbs_pow]; rfl
  rw [eabs]
  show IsF (double.nearest _ _ _) _
  rw [nearest_scaled _ _ _ h]
  refine ⟨_, rfl, ?_, ?_⟩
  · intro hneg
    have hlt : (a + b) * 2 ^ (max k j) < 0 := Int.mul_neg_of_neg_of_pos hneg hp
    rw [if_neg (by omega)]
    simpa using hlt
  · intro hpos
    have hlt : 0 < (a + b) * 2 ^ (max k j) := Int.mul_pos hpos hp
    rw [if_neg (by omega)]
    simp; omega

theorem add_isF {x y : Nat} {a b : Int} (hx : IsF x a) (hy : IsF y b) (ha : a.natAbs < 2 ^ 53) (hb : b.natAbs < 2 ^ 53) (h : (a + b).natAbs < 2 ^ 53) :
    ∃ r, double.add x y = some r ∧ IsF r (a + b) := by
  obtain ⟨s, rfl, s1, s2⟩ := hx
  obtain ⟨t, rfl, t1, t2⟩ := hy
  obtain ⟨k, ek⟩ := read_fl s a.natAbs ha
  obtain ⟨j, ej⟩ := read_fl t b.natAbs hb
  unfold Format.add
  rw [ek, ej]
  exact sum_write s t _ _ k j a b (val_of s a s1 s2) (val_of t b t1 t2) h

theorem sub_isF {x y : Nat} {a b : Int} (hx : IsF x a) (hy : IsF y b) (ha : a.natAbs < 2 ^ 53) (hb : b.natAbs < 2 ^ 53) (h : (a - b).natAbs < 2 ^ 53) :
    ∃ r, double.sub x y = some r ∧ IsF r (a - b) := by
  obtain ⟨s, rfl, s1, s2⟩ := hx
  obtain ⟨t, rfl, t1, t2⟩ := hy
  obtain ⟨k, ek⟩ := read_fl s a.natAbs ha
  obtain ⟨j, ej⟩ := read_fl t b.natAbs hb
  unfold Format.sub
  rw [ek, ej]
  have := sum_write s (!t) _ _ k j a (-b) (val_of s a s1 s2) (by have := val_of t b t1 t2; cases t <;> simp at this ⊢ <;> omega) (by rw [← Int.sub_eq_add_neg]; exact h)
  rw [← Int.sub_eq_add_neg] at this
  exact this

theorem mul_isF {x y : Nat} {a b : Int} (hx : IsF x a) (hy : IsF y b) (ha : a.natAbs < 2 ^ 53) (hb : b.natAbs < 2 ^ 53) (h : (a * b).natAbs < 2 ^ 53) :
    ∃ r, double.mul x y = some r ∧ IsF r (a * b) := by
  obtain ⟨s, rfl, s1, s2⟩ := hx
  obtain ⟨t, rfl, t1, t2⟩ := hy
  obtain ⟨k, ek⟩ := read_fl s a.natAbs ha
  obtain ⟨j, ej⟩ := read_fl t b.natAbs hb
  unfold Format.mul
  rw [ek, ej]
  refine ⟨_, rfl, ?_⟩
  show IsF (double.nearest (s ^^ t) _ _) _
  have e1 : a.natAbs * 2 ^ k * (b.natAbs * 2 ^ j) = (a * b).natAbs * 2 ^ (k + j) := by
    rw [Int.natAbs_mul, Nat.pow_add, Nat.mul_assoc, Nat.mul_assoc, Nat.mul_left_comm (2 ^ k)]
  have e2 : -(k : Int) + -(j : Int) = -((k + j : Nat) : Int) := by omega
  have fin : double.nearest (s ^^ t) (a.natAbs * 2 ^ k * (b.natAbs * 2 ^ j)) (-(k : Int) + -(j : Int)) = fl (s ^^ t) (a * b).natAbs := by
    rw [e1, e2]
    exact nearest_scaled _ _ _ h
  rw [fin]
  refine ⟨_, rfl, ?_, ?_⟩
  · intro hneg
    rcases Int.lt_trichotomy a 0 with h1 | h1 | h1
    · have hb2 : 0 < b := by
        rcases Int.lt_trichotomy b 0 with h2 | h2 | h2
        · have := Int.mul_pos_of_neg_of_neg h1 h2; omega
        · subst h2; omega
        · exact h2
      rw [s1 h1, t2 hb2]; rfl
    · subst h1; omega
    · have hb2 : b < 0 := by
        rcases Int.lt_trichotomy b 0 with h2 | h2 | h2
        · exact h2
        · subst h2; omega
        · have := Int.mul_pos h1 h2; omega
      rw [s2 h1, t1 hb2]; rfl
  · intro hpos
    rcases Int.lt_trichotomy a 0 with h1 | h1 | h1
    · have hb2 : b < 0 := by
        rcases Int.lt_trichotomy b 0 with h2 | h2 | h2
        · exact h2
        · subst h2; omega
        · have := Int.mul_neg_of_neg_of_pos h1 h2; omega
      rw [s1 h1, t1 hb2]; rfl
    · subst h1; omega
    · have hb2 : 0 < b := by
        rcases Int.lt_trichotomy b 0 with h2 | h2 | h2
        · have := Int.mul_neg_of_pos_of_neg h1 h2; omega
        · subst h2; omega
        · exact h2
      rw [s2 h1, t2 hb2]; rfl

theorem compare_scaled (a b : Int) (p : Int) (hp : 0 < p) : compare (a * p) (b * p) = compare a b := by
  rcases Int.lt_trichotomy a b with h | h | h
  · rw [Int.compare_eq_lt.2 h, Int.compare_eq_lt.2 (Int.mul_lt_mul_of_pos_right h hp)]
  · subst h; rw [Int.compare_eq_eq.2 rfl, Int.compare_eq_eq.2 rfl]
  · rw [Int.compare_eq_gt.2 h, Int.compare_eq_gt.2 (Int.mul_lt_mul_of_pos_right h hp)]

theorem order_isF {x y : Nat} {a b : Int} (hx : IsF x a) (hy : IsF y b) (ha : a.natAbs < 2 ^ 53) (hb : b.natAbs < 2 ^ 53) :
    double.order x y = some (compare a b) := by
  obtain ⟨s, rfl, s1, s2⟩ := hx
  obtain ⟨t, rfl, t1, t2⟩ := hy
  obtain ⟨k, ek⟩ := read_fl s a.natAbs ha
  obtain ⟨j, ej⟩ := read_fl t b.natAbs hb
  have hp : (0 : Int) < 2 ^ (max k j) := by exact_mod_cast Nat.two_pow_pos (max k j)
  unfold Format.order
  rw [ek, ej]
  show some (compare (signed s (a.natAbs * 2 ^ k) (-(k : Int) - min (-(k : Int)) (-(j : Int))).toNat) (signed t (b.natAbs * 2 ^ j) (-(j : Int) - min (-(k : Int)) (-(j : Int))).toNat)) = _
  rw [signed_scaled, signed_scaled, val_of s a s1 s2, val_of t b t1 t2]
  have e1 : k + (-(k : Int) - min (-(k : Int)) (-(j : Int))).toNat = max k j := by omega
  have e2 : j + (-(j : Int) - min (-(k : Int)) (-(j : Int))).toNat = max k j := by omega
  rw [e1, e2, compare_scaled _ _ _ hp]

theorem toInt_isF {x : Nat} {a : Int} (hx : IsF x a) (ha : a.natAbs < 2 ^ 53) : (double.read x).toInt .zero = some a := by
  obtain ⟨s, rfl, s1, s2⟩ := hx
  obtain ⟨k, ek⟩ := read_fl s a.natAbs ha
  rw [ek]
  unfold Datum.toInt Datum.integral
  dsimp only
  have e1 : (-(k : Int)).toNat = 0 := by omega
  have e2 : (- -(k : Int)).toNat = k := by omega
  rw [e1, e2, Nat.shiftLeft_zero]
  have hc : Toward.zero.cut s (a.natAbs * 2 ^ k) k = a.natAbs := by
    unfold Toward.cut
    dsimp only
    rcases Nat.eq_zero_or_pos a.natAbs with hz | hp
    · rw [hz]; simp
    · rw [Nat.min_eq_left (by rw [log2_mul_pow _ _ hp]; omega), Nat.shiftLeft_eq, Nat.one_mul, Nat.mul_div_cancel _ (Nat.two_pow_pos k)]
      rfl
  rw [hc]
  have := signed_scaled s a.natAbs 0 0
  simp only [Nat.pow_zero, Nat.mul_one, Nat.add_zero, Int.pow_zero, Int.mul_one] at this
  rw [this, val_of s a s1 s2]

theorem ofInt_isF (a : Int) : IsF (double.write (.number (decide (a < 0)) a.natAbs 0)) a :=
  ⟨decide (a < 0), rfl, fun h => by simpa using h, fun h => by simp; omega⟩

theorem neg_isF {x : Nat} {a : Int} (hx : IsF x a) (ha : a.natAbs < 2 ^ 53) : IsF (double.write (double.read x).opposite) (-a) := by
  obtain ⟨s, rfl, s1, s2⟩ := hx
  obtain ⟨k, ek⟩ := read_fl s a.natAbs ha
  rw [ek]
  show IsF (double.nearest (!s) _ _) _
  rw [nearest_scaled _ _ _ ha]
  refine ⟨!s, by rw [Int.natAbs_neg], fun h => by rw [s2 (by omega)]; rfl, fun h => by rw [s1 (by omega)]; rfl⟩

theorem negBits_isF {x : Nat} {a : Int} (hx : IsF x a) (ha : a.natAbs < 2 ^ 53) : IsF (x ^^^ 2 ^ 63) (-a) := by
  obtain ⟨s, rfl, s1, s2⟩ := hx
  have hf : fl s a.natAbs ^^^ 2 ^ 63 = fl (!s) a.natAbs := by
    have key : ∀ r, r < 2 ^ 63 → double.word s r ^^^ 2 ^ 63 = double.word (!s) r := by
      intro r hr
      have hw : double.signWeight = 2 ^ 63 := rfl
      have ho : 2 ^ 63 + r = 2 ^ 63 ^^^ r := by
        apply Nat.eq_of_testBit_eq
        intro i
        rw [Nat.testBit_xor]
        rcases Nat.lt_trichotomy i 63 with h | h | h
        · rw [Nat.testBit_two_pow_add_gt h, Nat.testBit_two_pow_of_ne (by omega)]; simp
        · subst h
          rw [Nat.testBit_two_pow_add_eq, Nat.testBit_two_pow_self, Nat.testBit_lt_two_pow hr]; rfl
        · have hi : (2 : Nat) ^ 64 ≤ 2 ^ i := Nat.pow_le_pow_right (by decide) h
          have h64 : (2 : Nat) ^ 64 = 2 ^ 63 + 2 ^ 63 := rfl
          rw [Nat.testBit_lt_two_pow (Nat.lt_of_lt_of_le (h64 ▸ Nat.add_lt_add_left hr _) hi), Nat.testBit_two_pow_of_ne (by omega), Nat.testBit_lt_two_pow (Nat.lt_of_lt_of_le hr (Nat.le_trans (by decide) hi))]; rfl
      unfold Format.word
      rw [hw]
      cases s
      · simp only [Bool.not_false, if_true, Bool.false_eq_true, if_false]
        rw [ho, Nat.xor_comm]
      · simp only [Bool.not_true, if_true, Bool.false_eq_true, if_false]
        rw [ho, Nat.xor_comm, ← Nat.xor_assoc, Nat.xor_self, Nat.zero_xor]
    rcases Nat.eq_zero_or_pos a.natAbs with hz | hp
    · rw [hz, fl_zero, fl_zero, key 0 (by decide)]
    · have e1 := nearest_val s a.natAbs 0 hp ha
      have e2 := nearest_val (!s) a.natAbs 0 hp ha
      simp only [Nat.pow_zero, Nat.mul_one, Int.natCast_zero, Int.neg_zero] at e1 e2
      unfold fl
      rw [e1, e2]
      have hL : a.natAbs.log2 < 53 := (Nat.log2_lt (by omega)).2 ha
      have hL2 : a.natAbs < 2 ^ (a.natAbs.log2 + 1) := Nat.lt_log2_self
      have hK : a.natAbs * 2 ^ (52 - a.natAbs.log2) < 2 * 2 ^ 52 := by
        calc a.natAbs * 2 ^ (52 - a.natAbs.log2) < 2 ^ (a.natAbs.log2 + 1) * 2 ^ (52 - a.natAbs.log2) := Nat.mul_lt_mul_of_pos_right hL2 (Nat.two_pow_pos _)
          _ = 2 ^ 53 := by rw [← Nat.pow_add]; congr 1; omega
          _ = 2 * 2 ^ 52 := rfl
      exact key _ (Nat.lt_of_le_of_lt (bnd_rung _ _ _ (by omega) hK) (by decide))
  rw [hf]
  exact ⟨!s, by rw [Int.natAbs_neg], fun h => by rw [s2 (by omega)]; rfl, fun h => by rw [s1 (by omega)]; rfl⟩

end PF
