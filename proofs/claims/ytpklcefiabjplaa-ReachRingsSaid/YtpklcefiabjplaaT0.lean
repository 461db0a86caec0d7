/- Sets of numbers as one natural number; plain; no condition. -/
set_option linter.unusedVariables false
namespace Go.Proofs.Ytpklcefiabjplaa
def putM (M n : Nat) : Nat := M ||| 2 ^ n
def ofM (xs : List Nat) : Nat := xs.foldl putM 0
def listM (M : Nat) : List Nat := (List.range 128).filter (fun n => M.testBit n)
def loM (M : Nat) : Int := ((M % 2 ^ 64 : Nat) : Int)
def hiM (M : Nat) : Int := ((M / 2 ^ 64 : Nat) : Int)
theorem putM_bit (M n k : Nat) : (putM M n).testBit k = (M.testBit k || decide (n = k)) := by
  unfold putM
  rw [Nat.testBit_or, Nat.testBit_two_pow]
theorem foldM_bit : ∀ (xs : List Nat) (M k : Nat), (xs.foldl putM M).testBit k = (M.testBit k || xs.contains k)
  | [], M, k => by simp
  | x :: xs, M, k => by
    rw [List.foldl_cons, foldM_bit xs, putM_bit, List.contains_cons, Bool.or_assoc]
    congr 2
    by_cases h : x = k
    · subst h; simp
    · simp [h, Ne.symm h]
theorem ofM_bit (xs : List Nat) (k : Nat) : (ofM xs).testBit k = xs.contains k := by
  unfold ofM
  rw [foldM_bit, Nat.zero_testBit, Bool.false_or]
theorem putM_lt {M n : Nat} (h : M < 2 ^ 128) (hn : n < 128) : putM M n < 2 ^ 128 := by
  unfold putM
  exact Nat.or_lt_two_pow h (Nat.pow_lt_pow_right (by omega) hn)
theorem foldM_lt : ∀ (xs : List Nat) (M : Nat), M < 2 ^ 128 → (∀ x ∈ xs, x < 128) → xs.foldl putM M < 2 ^ 128
  | [], M, h, _ => h
  | x :: xs, M, h, hx => by
    rw [List.foldl_cons]
    exact foldM_lt xs _ (putM_lt h (hx x (List.mem_cons_self ..))) fun y hy => hx y (List.mem_cons_of_mem _ hy)
theorem ofM_lt {xs : List Nat} (h : ∀ x ∈ xs, x < 128) : ofM xs < 2 ^ 128 := foldM_lt xs 0 (by omega) h
theorem listM_lt {M n : Nat} (h : n ∈ listM M) : n < 128 := by
  unfold listM at h
  simpa using (List.mem_filter.1 h).1
theorem bit_lt {M k : Nat} (h : M < 2 ^ 128) (hk : 128 ≤ k) : M.testBit k = false := Nat.testBit_lt_two_pow (Nat.lt_of_lt_of_le h (Nat.pow_le_pow_right (by omega) hk))
theorem ofM_filter (p : Nat → Bool) (M : Nat) (h : M < 2 ^ 128) (hp : ∀ k, k < 128 → M.testBit k = p k) : ofM ((List.range 128).filter p) = M := by
  apply Nat.eq_of_testBit_eq
  intro k
  rw [ofM_bit]
  by_cases hk : k < 128
  · rw [hp k hk]
    cases hpk : p k with
    | true => rw [List.contains_iff_mem]; simp [hk, hpk]
    | false =>
      rw [Bool.eq_false_iff]
      intro hc
      rw [List.contains_iff_mem, List.mem_filter] at hc
      rw [hpk] at hc
      cases hc.2
  · rw [bit_lt h (by omega), Bool.eq_false_iff]
    intro hc
    rw [List.contains_iff_mem, List.mem_filter, List.mem_range] at hc
    omega
theorem ofM_or {A B : Nat} (ha : A < 2 ^ 128) (hb : B < 2 ^ 128) : ofM ((List.range 128).filter fun n => A.testBit n || B.testBit n) = A ||| B :=
  ofM_filter _ _ (Nat.or_lt_two_pow ha hb) fun k _ => Nat.testBit_or ..
theorem ofM_and {A B : Nat} (ha : A < 2 ^ 128) : ofM ((List.range 128).filter fun n => A.testBit n && B.testBit n) = A &&& B :=
  ofM_filter _ _ (Nat.lt_of_le_of_lt Nat.and_le_left ha) fun k _ => Nat.testBit_and ..
theorem half (n i : Nat) : n / 2 ^ i / 2 = n / 2 ^ (i + 1) := by rw [Nat.div_div_eq_div_mul, Nat.pow_succ]
theorem lo_bit (M : Nat) {n : Nat} (h : n < 64) : (M % 2 ^ 64 / 2 ^ n % 2 = 1) = (M.testBit n = true) := by
  have : (M % 2 ^ 64).testBit n = M.testBit n := by rw [Nat.testBit_mod_two_pow]; simp [h]
  rw [← this, Nat.testBit_eq_decide_div_mod_eq]
  simp
theorem hi_bit (M : Nat) {n : Nat} (h : 64 ≤ n) : (M / 2 ^ 64 / 2 ^ (n - 64) % 2 = 1) = (M.testBit n = true) := by
  have : M / 2 ^ 64 / 2 ^ (n - 64) = M / 2 ^ n := by rw [Nat.div_div_eq_div_mul, ← Nat.pow_add, show 64 + (n - 64) = n by omega]
  rw [this, Nat.testBit_eq_decide_div_mod_eq]
  simp
theorem add_bit {M n : Nat} (h : M.testBit n = false) : M + 2 ^ n = putM M n := by
  have e := Nat.div_add_mod M (2 ^ (n + 1))
  have hlt : M % 2 ^ (n + 1) < 2 ^ n := by
    have h1 : M % 2 ^ (n + 1) < 2 ^ (n + 1) := Nat.mod_lt _ (Nat.two_pow_pos _)
    have h2 : (M % 2 ^ (n + 1)).testBit n = false := by rw [Nat.testBit_mod_two_pow]; simp [h]
    apply Classical.byContradiction
    intro hc
    have : (M % 2 ^ (n + 1)).testBit n = true := by
      rw [Nat.testBit_eq_decide_div_mod_eq]
      have : M % 2 ^ (n + 1) / 2 ^ n = 1 := by
        have ha : 1 ≤ M % 2 ^ (n + 1) / 2 ^ n := (Nat.le_div_iff_mul_le (Nat.two_pow_pos _)).2 (by omega)
        have hb : M % 2 ^ (n + 1) / 2 ^ n < 2 := (Nat.div_lt_iff_lt_mul (Nat.two_pow_pos _)).2 (by rw [Nat.pow_succ] at h1; omega)
        omega
      simp [this]
    rw [this] at h2
    cases h2
  unfold putM
  have e1 : M = 2 ^ (n + 1) * (M / 2 ^ (n + 1)) ||| M % 2 ^ (n + 1) := by
    rw [← Nat.two_pow_add_eq_or_of_lt (Nat.mod_lt _ (Nat.two_pow_pos _)), e]
  have e2 : 2 ^ n ||| M % 2 ^ (n + 1) = 2 ^ n + M % 2 ^ (n + 1) := by
    have := Nat.two_pow_add_eq_or_of_lt hlt 1
    rw [Nat.mul_one] at this
    exact this.symm
  have hs : 2 ^ n + M % 2 ^ (n + 1) < 2 ^ (n + 1) := by
    have e9 : 2 ^ (n + 1) = 2 ^ n * 2 := Nat.pow_succ ..
    generalize M % 2 ^ (n + 1) = r at *
    omega
  have e3 := Nat.two_pow_add_eq_or_of_lt hs (M / 2 ^ (n + 1))
  calc M + 2 ^ n = 2 ^ (n + 1) * (M / 2 ^ (n + 1)) + (2 ^ n + M % 2 ^ (n + 1)) := by omega
    _ = 2 ^ (n + 1) * (M / 2 ^ (n + 1)) ||| (2 ^ n ||| M % 2 ^ (n + 1)) := by rw [e3, e2]
    _ = M ||| 2 ^ n := by
      conv => rhs; rw [e1]
      rw [Nat.or_assoc, Nat.or_comm (M % 2 ^ (n + 1))]
theorem put_lo {M n : Nat} (h : M.testBit n = false) (hn : n < 64) : M % 2 ^ 64 + 2 ^ n = putM M n % 2 ^ 64 ∧ M / 2 ^ 64 = putM M n / 2 ^ 64 := by
  have h2 : (M % 2 ^ 64).testBit n = false := by rw [Nat.testBit_mod_two_pow]; simp [h]
  have hlt : putM (M % 2 ^ 64) n < 2 ^ 64 := by
    unfold putM
    exact Nat.or_lt_two_pow (Nat.mod_lt _ (Nat.two_pow_pos _)) (Nat.pow_lt_pow_right (by omega) hn)
  rw [← add_bit h2] at hlt
  have e := add_bit h
  have e4 := Nat.div_add_mod M (2 ^ 64)
  have p0 : 0 < 2 ^ n := Nat.two_pow_pos n
  generalize 2 ^ n = q at *
  rw [← e]
  omega
theorem put_hi {M n : Nat} (h : M.testBit n = false) (hn : 64 ≤ n) : M / 2 ^ 64 + 2 ^ (n - 64) = putM M n / 2 ^ 64 ∧ M % 2 ^ 64 = putM M n % 2 ^ 64 := by
  have e := add_bit h
  rw [← e]
  have : 2 ^ n = 2 ^ (n - 64) * 2 ^ 64 := by rw [← Nat.pow_add, show n - 64 + 64 = n by omega]
  rw [this]
  omega
theorem pairM {A B : Nat} (h1 : loM A = loM B) (h2 : hiM A = hiM B) : A = B := by
  unfold loM at h1
  unfold hiM at h2
  have e1 := Nat.div_add_mod A (2 ^ 64)
  have e2 := Nat.div_add_mod B (2 ^ 64)
  omega
end Go.Proofs.Ytpklcefiabjplaa
