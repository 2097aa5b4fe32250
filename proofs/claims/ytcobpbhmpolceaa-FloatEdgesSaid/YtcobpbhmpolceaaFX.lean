import Derived.Test.YtcobpbhmpolceaaFQ
/-! Numbers cut short: quotients, roots, sums to as many digits as is liked. Plain laws. -/
namespace Go.Proofs.Ytcobpbhmpolceaa
open Go.RowKit Ieee

/-- What is left over, as one digit. -/
def stk (b : Bool) : Nat := if b then 1 else 0
theorem stk_le (b : Bool) : stk b ≤ 1 := by cases b <;> decide

theorem rne_stick (N k d : Nat) (hd : 1 ≤ d) : rne (2 * (N / 2 ^ k) + stk (N % 2 ^ k != 0)) (d + 1) = rne N (d + k) := by
  have hK : 0 < 2 ^ k := Nat.two_pow_pos _
  obtain ⟨h, rfl⟩ : ∃ h, d = h + 1 := ⟨d - 1, by omega⟩
  have hH : 0 < 2 ^ h := Nat.two_pow_pos _
  have e0 : N = 2 ^ k * (N / 2 ^ k) + N % 2 ^ k := (Nat.div_add_mod N (2 ^ k)).symm
  have et : N % 2 ^ k < 2 ^ k := Nat.mod_lt _ hK
  generalize hq : N / 2 ^ k = q at *
  generalize ht : N % 2 ^ k = t at *
  have d1 : N / 2 ^ (h + 1 + k) = q / 2 ^ (h + 1) := by rw [Nat.add_comm (h + 1) k, Nat.pow_add, ← Nat.div_div_eq_div_mul, hq]
  have d2 : (2 * q + stk (t != 0)) / 2 ^ (h + 1 + 1) = q / 2 ^ (h + 1) := by
    rw [Nat.pow_succ 2 (h + 1), Nat.mul_comm _ 2, ← Nat.div_div_eq_div_mul]
    have := stk_le (t != 0)
    rw [show (2 * q + stk (t != 0)) / 2 = q from by omega]
  have m1 : N % 2 ^ (h + 1 + k) = 2 ^ k * (q % 2 ^ (h + 1)) + t := by
    rw [Nat.add_comm (h + 1) k, Nat.pow_add, Nat.mod_mul, hq, ht]; omega
  have m2 : (2 * q + stk (t != 0)) % 2 ^ (h + 1 + 1) = 2 * (q % 2 ^ (h + 1)) + stk (t != 0) := by
    rw [Nat.pow_succ 2 (h + 1), Nat.mul_comm _ 2, Nat.mod_mul]
    have := stk_le (t != 0)
    rw [show (2 * q + stk (t != 0)) / 2 = q from by omega]; omega
  unfold rne
  rw [d1, d2, m1, m2]
  generalize q / 2 ^ (h + 1) = a
  have hb : q % 2 ^ (h + 1) < 2 ^ (h + 1) := Nat.mod_lt _ (Nat.two_pow_pos _)
  generalize q % 2 ^ (h + 1) = b at *
  rw [show 2 ^ (h + 1 + k) = 2 * (2 ^ k * 2 ^ h) from by rw [Nat.pow_add, Nat.pow_succ]; ac_rfl, show 2 ^ (h + 1 + 1) = 4 * 2 ^ h from by rw [Nat.pow_succ, Nat.pow_succ]; omega]
  have hlt : h = h := rfl
  rcases Nat.lt_trichotomy b (2 ^ h) with c | c | c
  · have : 2 ^ k * (b + 1) ≤ 2 ^ k * 2 ^ h := Nat.mul_le_mul_left _ c
    rw [Nat.mul_add, Nat.mul_one] at this
    have := stk_le (t != 0)
    rw [if_neg (by omega), if_neg (by omega)]
  · subst c
    by_cases h0 : t = 0
    · subst h0
      simp only [show stk ((0 : Nat) != 0) = 0 from rfl]
      congr 1
      apply propext
      constructor <;> rintro (x | x) <;> omega
    · have : stk (t != 0) = 1 := by unfold stk; simp [h0]
      rw [this, if_pos (by omega), if_pos (by omega)]
  · have : 2 ^ k * (2 ^ h + 1) ≤ 2 ^ k * b := Nat.mul_le_mul_left _ c
    rw [Nat.mul_add, Nat.mul_one] at this
    rw [if_pos (by omega), if_pos (by omega)]

theorem log2_stick (q : Nat) (hq : q ≠ 0) (b : Bool) : (2 * q + stk b).log2 = q.log2 + 1 := by
  have := stk_le b
  have h1 := (Nat.log2_eq_iff hq).1 rfl
  refine (Nat.log2_eq_iff (by omega)).2 ⟨?_, ?_⟩
  · rw [Nat.pow_succ]; omega
  · rw [Nat.pow_succ]; omega

theorem log2_div (N k : Nat) (hq : N / 2 ^ k ≠ 0) : N.log2 = (N / 2 ^ k).log2 + k := by
  have h1 := (Nat.log2_eq_iff hq).1 rfl
  have hK : 0 < 2 ^ k := Nat.two_pow_pos _
  have e0 : N = 2 ^ k * (N / 2 ^ k) + N % 2 ^ k := (Nat.div_add_mod N (2 ^ k)).symm
  have et : N % 2 ^ k < 2 ^ k := Nat.mod_lt _ hK
  have hN : N ≠ 0 := by rintro rfl; simp at hq
  refine (Nat.log2_eq_iff hN).2 ⟨?_, ?_⟩
  · rw [Nat.pow_add, Nat.mul_comm]
    have := Nat.mul_le_mul_left (2 ^ k) h1.1
    omega
  · rw [show (N / 2 ^ k).log2 + k + 1 = (N / 2 ^ k).log2 + 1 + k from by omega, Nat.pow_add _ _ k, Nat.mul_comm _ (2 ^ k)]
    have := Nat.mul_le_mul_left (2 ^ k) (show N / 2 ^ k + 1 ≤ 2 ^ ((N / 2 ^ k).log2 + 1) from h1.2)
    rw [Nat.mul_add, Nat.mul_one] at this
    omega

/-- A number cut short, what is cut told by one digit: the same rung. -/
theorem RP_stick (N k : Nat) (p : Int) (hq : 9007199254740992 ≤ N / 2 ^ k) : RP (2 * (N / 2 ^ k) + stk (N % 2 ^ k != 0)) (p + (k : Int) - 1) = RP N p := by
  have hq0 : N / 2 ^ k ≠ 0 := by omega
  have hl : 53 ≤ (N / 2 ^ k).log2 := (Nat.le_log2 hq0).2 hq
  have hN : N ≠ 0 := by rintro rfl; simp at hq
  unfold RP
  rw [if_neg (by omega), if_neg hN, log2_stick _ hq0, log2_div N k hq0]
  rw [show p + (k : Int) - 1 + (((N / 2 ^ k).log2 + 1 : Nat) : Int) - 52 = p + (((N / 2 ^ k).log2 + k : Nat) : Int) - 52 from by omega]
  have hl2 : p + (((N / 2 ^ k).log2 + k : Nat) : Int) - 52 ≤ max (p + (((N / 2 ^ k).log2 + k : Nat) : Int) - 52) (-1074) := by omega
  generalize max (p + (((N / 2 ^ k).log2 + k : Nat) : Int) - 52) (-1074) = last at *
  rw [show (p + (k : Int) - 1 - last).toNat = 0 from by omega, show (p - last).toNat = 0 from by omega, Nat.pow_zero, Nat.mul_one, Nat.mul_one]
  have := rne_stick N k (last - p - k).toNat (by omega)
  rw [show (last - (p + (k : Int) - 1)).toNat = (last - p - k).toNat + 1 from by omega, this, show (last - p - k).toNat + k = (last - p).toNat from by omega]

/-- A quotient to more digits. -/
theorem quo_stick (A B t k : Nat) (p : Int) (hB : 0 < B) (hq : 9007199254740992 ≤ A * 2 ^ t / B) :
    RP (2 * (A * 2 ^ (t + k) / B) + stk (A * 2 ^ (t + k) % B != 0)) (p - (k : Int)) = RP (2 * (A * 2 ^ t / B) + stk (A * 2 ^ t % B != 0)) p := by
  have hK : 0 < 2 ^ k := Nat.two_pow_pos _
  have e1 : A * 2 ^ (t + k) / B / 2 ^ k = A * 2 ^ t / B := by
    rw [Nat.pow_add, ← Nat.mul_assoc, Nat.div_div_eq_div_mul, Nat.mul_div_mul_right _ _ hK]
  have e2 : (2 * (A * 2 ^ (t + k) / B) + stk (A * 2 ^ (t + k) % B != 0)) / 2 ^ (k + 1) = A * 2 ^ t / B := by
    have := stk_le (A * 2 ^ (t + k) % B != 0)
    rw [Nat.pow_succ, Nat.mul_comm _ 2, ← Nat.div_div_eq_div_mul, show (2 * (A * 2 ^ (t + k) / B) + stk (A * 2 ^ (t + k) % B != 0)) / 2 = A * 2 ^ (t + k) / B from by omega, e1]
  have e3 : ((2 * (A * 2 ^ (t + k) / B) + stk (A * 2 ^ (t + k) % B != 0)) % 2 ^ (k + 1) != 0) = (A * 2 ^ t % B != 0) := by
    have f1 : A * 2 ^ (t + k) % B = 0 ∧ A * 2 ^ (t + k) / B % 2 ^ k = 0 ↔ A * 2 ^ t % B = 0 := by
      have g1 : A * 2 ^ (t + k) = A * 2 ^ t * 2 ^ k := by rw [Nat.pow_add, Nat.mul_assoc]
      have g2 : (A * 2 ^ t * 2 ^ k) % (B * 2 ^ k) = A * 2 ^ t % B * 2 ^ k := Nat.mul_mod_mul_right _ _ _
      have g3 : (A * 2 ^ t * 2 ^ k) % (B * 2 ^ k) = (A * 2 ^ t * 2 ^ k) % B + B * ((A * 2 ^ t * 2 ^ k) / B % 2 ^ k) := Nat.mod_mul
      rw [g1]
      rw [g3] at g2
      constructor
      · rintro ⟨a, b⟩
        rw [a, b] at g2
        have : A * 2 ^ t % B * 2 ^ k = 0 := by omega
        rcases Nat.mul_eq_zero.1 this with h | h
        · exact h
        · omega
      · intro a
        rw [a, Nat.zero_mul] at g2
        have g4 : (A * 2 ^ t * 2 ^ k) % B = 0 := by omega
        have g5 : B * ((A * 2 ^ t * 2 ^ k) / B % 2 ^ k) = 0 := by omega
        rcases Nat.mul_eq_zero.1 g5 with h | h
        · omega
        · exact ⟨g4, h⟩
    rw [Bool.eq_iff_iff]
    simp only [bne_iff_ne, ne_eq]
    rw [← f1, Nat.pow_succ, Nat.mul_comm _ 2, Nat.mod_mul]
    have := stk_le (A * 2 ^ (t + k) % B != 0)
    rw [show (2 * (A * 2 ^ (t + k) / B) + stk (A * 2 ^ (t + k) % B != 0)) / 2 = A * 2 ^ (t + k) / B from by omega, show (2 * (A * 2 ^ (t + k) / B) + stk (A * 2 ^ (t + k) % B != 0)) % 2 = stk (A * 2 ^ (t + k) % B != 0) from by omega]
    unfold stk
    by_cases h : A * 2 ^ (t + k) % B = 0
    · simp only [h, bne_self_eq_false, Bool.false_eq_true, if_false, Nat.zero_add, true_and]
      generalize A * 2 ^ (t + k) / B % 2 ^ k = z
      omega
    · have hb : (A * 2 ^ (t + k) % B != 0) = true := by simpa using h
      rw [hb, if_pos rfl]
      constructor
      · rintro _ ⟨h', _⟩; exact h h'
      · intro _ h'; omega
  have := RP_stick (2 * (A * 2 ^ (t + k) / B) + stk (A * 2 ^ (t + k) % B != 0)) (k + 1) (p - (k : Int)) (by rw [e2]; exact hq)
  rw [e2, e3] at this
  rw [← this]
  congr 1
  omega

/-- The greatest number whose square is not above. -/
def IsRoot (n r : Nat) : Prop := r * r ≤ n ∧ n < (r + 1) * (r + 1)

/-- A root to more digits. -/
theorem root_stick (n k r r' : Nat) (p : Int) (h : IsRoot n r) (h' : IsRoot (n * 2 ^ (2 * k)) r') (hq : 9007199254740992 ≤ r) :
    RP (2 * r' + stk (r' * r' != n * 2 ^ (2 * k))) (p - (k : Int)) = RP (2 * r + stk (r * r != n)) p := by
  have hK : 0 < 2 ^ k := Nat.two_pow_pos _
  have hKK : 2 ^ (2 * k) = 2 ^ k * 2 ^ k := by rw [Nat.two_mul, Nat.pow_add]
  have a1 : r' / 2 ^ k = r := by
    have c1 : r * 2 ^ k ≤ r' := by
      rcases Nat.lt_or_ge r' (r * 2 ^ k) with c | c
      · exfalso
        have := Nat.mul_le_mul (show r' + 1 ≤ r * 2 ^ k by omega) (show r' + 1 ≤ r * 2 ^ k by omega)
        have h2 := h'.2
        have h3 := Nat.mul_le_mul_right (2 ^ (2 * k)) h.1
        rw [hKK] at h2 h3
        rw [Nat.mul_mul_mul_comm] at this
        omega
      · exact c
    have c2 : r' < (r + 1) * 2 ^ k := by
      rcases Nat.lt_or_ge r' ((r + 1) * 2 ^ k) with c | c
      · exact c
      · exfalso
        have := Nat.mul_le_mul c c
        have h2 := h'.1
        have h3 : n * 2 ^ (2 * k) < (r + 1) * (r + 1) * 2 ^ (2 * k) := (Nat.mul_lt_mul_right (Nat.two_pow_pos _)).2 h.2
        rw [hKK] at h2 h3
        rw [Nat.mul_mul_mul_comm] at this
        omega
    exact Nat.div_eq_of_lt_le c1 c2
  have e2 : (2 * r' + stk (r' * r' != n * 2 ^ (2 * k))) / 2 ^ (k + 1) = r := by
    have := stk_le (r' * r' != n * 2 ^ (2 * k))
    rw [Nat.pow_succ, Nat.mul_comm _ 2, ← Nat.div_div_eq_div_mul, show (2 * r' + stk (r' * r' != n * 2 ^ (2 * k))) / 2 = r' from by omega, a1]
  have e3 : ((2 * r' + stk (r' * r' != n * 2 ^ (2 * k))) % 2 ^ (k + 1) != 0) = (r * r != n) := by
    have f1 : r' * r' = n * 2 ^ (2 * k) ∧ r' % 2 ^ k = 0 ↔ r * r = n := by
      have e0 : r' = 2 ^ k * r + r' % 2 ^ k := by have := (Nat.div_add_mod r' (2 ^ k)).symm; rw [a1] at this; exact this
      constructor
      · rintro ⟨a, b⟩
        rw [b, Nat.add_zero] at e0
        rw [e0, Nat.mul_mul_mul_comm, ← hKK, Nat.mul_comm n] at a
        exact Nat.eq_of_mul_eq_mul_left (Nat.two_pow_pos _) a
      · intro a
        have : IsRoot (n * 2 ^ (2 * k)) (r * 2 ^ k) := by
          have z : r * 2 ^ k * (r * 2 ^ k) = n * 2 ^ (2 * k) := by rw [Nat.mul_mul_mul_comm, a, hKK]
          exact ⟨Nat.le_of_eq z, by rw [← z]; exact Nat.mul_lt_mul_of_lt_of_lt (by omega) (by omega)⟩
        have u := root_unique h'.1 h'.2 this.1 this.2
        rw [u]
        exact ⟨by rw [Nat.mul_mul_mul_comm, a, hKK], Nat.mul_mod_left _ _⟩
    rw [Bool.eq_iff_iff]
    simp only [bne_iff_ne, ne_eq]
    rw [← f1, Nat.pow_succ, Nat.mul_comm _ 2, Nat.mod_mul]
    have := stk_le (r' * r' != n * 2 ^ (2 * k))
    rw [show (2 * r' + stk (r' * r' != n * 2 ^ (2 * k))) / 2 = r' from by omega, show (2 * r' + stk (r' * r' != n * 2 ^ (2 * k))) % 2 = stk (r' * r' != n * 2 ^ (2 * k)) from by omega]
    unfold stk
    by_cases h : r' * r' = n * 2 ^ (2 * k)
    · simp only [h, bne_self_eq_false, Bool.false_eq_true, if_false, Nat.zero_add, true_and]
      generalize r' % 2 ^ k = z
      omega
    · have hb : (r' * r' != n * 2 ^ (2 * k)) = true := by simpa using h
      rw [hb, if_pos rfl]
      constructor
      · rintro _ ⟨h', _⟩; exact h h'
      · intro _ h'; omega
  have := RP_stick (2 * r' + stk (r' * r' != n * 2 ^ (2 * k))) (k + 1) (p - (k : Int)) (by rw [e2]; exact hq)
  rw [e2, e3] at this
  rw [← this]
  congr 1
  omega
end Go.Proofs.Ytcobpbhmpolceaa

/-! What sums, products, quotients, roots are written as. Plain laws. -/
namespace Go.Proofs.Ytcobpbhmpolceaa
open Go.RowKit Ieee

/-- What a number is written as. -/
theorem write_number (s : Bool) (m : Nat) (p : Int) : double.write (.number s m p) = double.word s (RP m p) := nearest_eq s m p

theorem quot_low {m n : Nat} (hm : m ≠ 0) (hn : n ≠ 0) (t : Nat) (ht : n.log2 + 54 ≤ m.log2 + t) : 9007199254740992 ≤ m * 2 ^ t / n := by
  rw [Nat.le_div_iff_mul_le (by omega)]
  have h1 := (Nat.log2_eq_iff hm).1 rfl
  have h2 := lt_log2 n
  have h3 : 2 ^ (n.log2 + 54) ≤ 2 ^ (m.log2 + t) := Nat.pow_le_pow_right (by decide) ht
  have h4 : 2 ^ (m.log2 + t) ≤ m * 2 ^ t := by rw [Nat.pow_add]; exact Nat.mul_le_mul_right _ h1.1
  rw [show n.log2 + 54 = (n.log2 + 1) + 53 from by omega, Nat.pow_add] at h3
  omega

/-- A quotient, to as many digits as is liked. -/
theorem div_spec (s t : Bool) (m n : Nat) (i j : Int) (hm : m ≠ 0) (hn : n ≠ 0) (hl : m.log2 ≤ 52) (T : Nat) (hT : n.log2 + 54 ≤ m.log2 + T) :
    ((Datum.number s m i).quotient 54 (.number t n j)).map double.write = some (double.word (s ^^ t) (RP (2 * (m * 2 ^ T / n) + stk (m * 2 ^ T % n != 0)) (i - j - T - 1))) := by
  simp only [Datum.quotient, hn, if_false, Option.map_some, write_number, Nat.shiftLeft_eq]
  generalize hmore : 54 + n.log2 - m.log2 = more
  have e1 : n.log2 + 54 ≤ m.log2 + more := by omega
  obtain ⟨k, rfl⟩ : ∃ k, T = more + k := ⟨T - more, by omega⟩
  have := quo_stick m n more k (i - j - (more : Int) - 1) (by omega) (quot_low hm hn more e1)
  rw [show i - j - ((more + k : Nat) : Int) - 1 = i - j - (more : Int) - 1 - (k : Int) from by omega, this]
  congr 2
  simp only [stk]
  cases h : (m * 2 ^ more % n != 0) <;> rfl

theorem root_is (n : Nat) : IsRoot n (Datum.rootFrom n (n.log2 / 2 + 1) 0) := root_spec n _ 0 (by omega) (root_top n)

/-- A root, to as many digits as is liked. -/
theorem root_spec2 (m : Nat) (i : Int) (hm : m ≠ 0) (hl : m.log2 ≤ 52) (T r : Nat) (h1 : 109 - m.log2 ≤ T) (h2 : (i - T) % 2 = 0) (hr : IsRoot (m * 2 ^ T) r) :
    ((Datum.number false m i).root 54).map double.write = some (double.word false (RP (2 * r + stk (r * r != m * 2 ^ T)) ((i - T) / 2 - 1))) := by
  simp only [Datum.root, hm, if_false, Bool.false_eq_true, Option.map_some, write_number, Nat.shiftLeft_eq]
  generalize hmore : 2 * 54 - m.log2 + ((i - ((2 * 54 - m.log2 : Nat) : Int)) % 2).toNat = more
  have e1 : 108 - m.log2 ≤ more ∧ more ≤ 109 - m.log2 := by omega
  have e2 : (i - (more : Int)) % 2 = 0 := by omega
  have hr0 := root_is (m * 2 ^ more)
  generalize Datum.rootFrom (m * 2 ^ more) ((m * 2 ^ more).log2 / 2 + 1) 0 = q at hr0
  obtain ⟨k, hk⟩ : ∃ k : Nat, T = more + 2 * k := ⟨(T - more) / 2, by omega⟩
  have hq : 9007199254740992 ≤ q := by
    have a1 := (Nat.log2_eq_iff hm).1 rfl
    have a2 : 2 ^ 108 ≤ m * 2 ^ more := by
      refine Nat.le_trans (Nat.pow_le_pow_right (by decide) (show 108 ≤ m.log2 + more by omega)) ?_
      rw [Nat.pow_add]; exact Nat.mul_le_mul_right _ a1.1
    rcases Nat.lt_or_ge q 9007199254740992 with c | c
    · have := Nat.mul_le_mul (show q + 1 ≤ 9007199254740992 from c) (show q + 1 ≤ 9007199254740992 from c)
      have := hr0.2
      omega
    · exact c
  have := root_stick (m * 2 ^ more) k q r ((i - (more : Int)) / 2 - 1) hr0 (by rw [Nat.mul_assoc, ← Nat.pow_add, ← hk]; exact hr) hq
  rw [Nat.mul_assoc m, ← Nat.pow_add, ← hk] at this
  rw [show (i - (T : Int)) / 2 - 1 = (i - (more : Int)) / 2 - 1 - (k : Int) from by omega, this]
  congr 2
  simp only [stk]
  cases h : (q * q != m * 2 ^ more) <;> rfl

theorem mul_spec (s t : Bool) (m n : Nat) (i j : Int) :
    ((Datum.number s m i).product (.number t n j)).map double.write = some (double.word (s ^^ t) (RP (m * n) (i + j))) := by
  simp only [Datum.product, Option.map_some, write_number]

/-- A sum of two of one sign. -/
theorem add_same (s : Bool) (m n : Nat) (j : Int) (d : Nat) (h0 : m ≠ 0 ∨ n ≠ 0) :
    ((Datum.number s m (j + d)).sum (.number s n j)).map double.write = some (double.word s (RP (m * 2 ^ d + n) j)) := by
  simp only [Datum.sum, Option.map_some, write_number]
  rw [show min (j + (d : Int)) j = j from by omega, show (j + (d : Int) - j).toNat = d from by omega, show (j - j).toNat = 0 from by omega]
  simp only [signed_eq, Nat.pow_zero, Nat.mul_one]
  have hp : 0 < m * 2 ^ d ∨ n ≠ 0 := by
    rcases h0 with h | h
    · exact Or.inl (Nat.mul_pos (by omega) (Nat.two_pow_pos _))
    · exact Or.inr h
  generalize m * 2 ^ d = x at *
  cases s
  · simp only [Bool.false_eq_true, if_false]
    rw [if_neg (by omega), show decide ((x : Int) + (n : Int) < 0) = false from by simp; omega, show ((x : Int) + (n : Int)).natAbs = x + n from by omega]
  · simp only [if_true]
    rw [if_neg (by omega), show decide (-(x : Int) + -(n : Int) < 0) = true from by simp; omega, show (-(x : Int) + -(n : Int)).natAbs = x + n from by omega]

theorem total_word (b : Bool) (T : Int) (j : Int) (hb : b = false) : double.word (if T = 0 then b else decide (T < 0)) (RP T.natAbs j) = if T = 0 then 0 else if 0 < T then double.word false (RP T.toNat j) else double.word true (RP (-T).toNat j) := by
  subst hb
  by_cases h0 : T = 0
  · subst h0; simp [RP, double_word]
  · rw [if_neg h0, if_neg h0]
    by_cases h1 : 0 < T
    · rw [if_pos h1, show decide (T < 0) = false from by simp; omega, show T.natAbs = T.toNat from by omega]
    · rw [if_neg h1, show decide (T < 0) = true from by simp; omega, show T.natAbs = (-T).toNat from by omega]

/-- A sum of two of two signs. -/
theorem add_diff (s : Bool) (m n : Nat) (j : Int) (d : Nat) :
    ((Datum.number s m (j + d)).sum (.number (!s) n j)).map double.write = some (if m * 2 ^ d = n then 0 else if n < m * 2 ^ d then double.word s (RP (m * 2 ^ d - n) j) else double.word (!s) (RP (n - m * 2 ^ d) j)) := by
  simp only [Datum.sum, Option.map_some, write_number]
  rw [show min (j + (d : Int)) j = j from by omega, show (j + (d : Int) - j).toNat = d from by omega, show (j - j).toNat = 0 from by omega]
  simp only [signed_eq, Nat.pow_zero, Nat.mul_one]
  rw [total_word (s && !s) _ _ (by cases s <;> rfl)]
  generalize m * 2 ^ d = x at *
  congr 1
  cases s
  · simp only [Bool.not_false, Bool.false_eq_true, if_false, if_true]
    rcases Nat.lt_trichotomy x n with c | c | c
    · rw [if_neg (by omega), if_neg (by omega), if_neg (by omega), if_neg (by omega), show (-((x : Int) + -(n : Int))).toNat = n - x from by omega]
    · rw [if_pos (by omega), if_pos c]
    · rw [if_neg (by omega), if_pos (by omega), if_neg (by omega), if_pos (by omega), show ((x : Int) + -(n : Int)).toNat = x - n from by omega]
  · simp only [Bool.not_true, Bool.false_eq_true, if_false, if_true]
    rcases Nat.lt_trichotomy x n with c | c | c
    · rw [if_neg (by omega), if_pos (by omega), if_neg (by omega), if_neg (by omega), show (-(x : Int) + (n : Int)).toNat = n - x from by omega]
    · rw [if_pos (by omega), if_pos c]
    · rw [if_neg (by omega), if_neg (by omega), if_neg (by omega), if_pos (by omega), show (-(-(x : Int) + (n : Int))).toNat = x - n from by omega]

/-- What is rounded by hand: a number, and whether there is somewhat more. -/
def rnd (s : Bool) (m : Nat) (p : Int) (more : Bool) : Nat := double.word s (RP (2 * m + stk more) (p - 1))

theorem rnd_exact (s : Bool) (m : Nat) (p : Int) : rnd s m p false = double.word s (RP m p) := by
  unfold rnd
  rw [RP_same (n := m) (q := p) (j := 0) (k := 1) (by simp [stk]; omega) (by omega)]

theorem rnd_cut (s : Bool) (N k : Nat) (p : Int) (h : 9007199254740992 ≤ N / 2 ^ k) : rnd s (N / 2 ^ k) (p + k) (N % 2 ^ k != 0) = double.word s (RP N p) := by
  unfold rnd
  rw [RP_stick N k p h]

theorem cut_add (m n k : Nat) (d : Nat) (h : k ≤ d) : (m * 2 ^ d + n) / 2 ^ k = m * 2 ^ (d - k) + n / 2 ^ k ∧ (m * 2 ^ d + n) % 2 ^ k = n % 2 ^ k := by
  have : m * 2 ^ d = m * 2 ^ (d - k) * 2 ^ k := by rw [Nat.mul_assoc, ← Nat.pow_add, Nat.sub_add_cancel h]
  rw [this, Nat.mul_comm _ (2 ^ k)]
  exact ⟨by rw [Nat.mul_add_div (Nat.two_pow_pos _)], by rw [Nat.mul_add_mod]⟩

theorem cut_sub (m n k : Nat) (d : Nat) (h : k ≤ d) (hn : n ≤ m * 2 ^ d) : (m * 2 ^ d - n) / 2 ^ k = m * 2 ^ (d - k) - n / 2 ^ k - stk (n % 2 ^ k != 0) ∧ ((m * 2 ^ d - n) % 2 ^ k != 0) = (n % 2 ^ k != 0) := by
  have hK : 0 < 2 ^ k := Nat.two_pow_pos _
  have e : m * 2 ^ d = 2 ^ k * (m * 2 ^ (d - k)) := by rw [Nat.mul_comm (2 ^ k), Nat.mul_assoc, ← Nat.pow_add, Nat.sub_add_cancel h]
  rw [e] at hn ⊢
  generalize m * 2 ^ (d - k) = x at *
  have e0 : n = 2 ^ k * (n / 2 ^ k) + n % 2 ^ k := (Nat.div_add_mod n (2 ^ k)).symm
  have et : n % 2 ^ k < 2 ^ k := Nat.mod_lt _ hK
  generalize n / 2 ^ k = q at *
  generalize n % 2 ^ k = t at *
  generalize 2 ^ k = K at *
  subst e0
  by_cases h0 : t = 0
  · subst h0
    have hxq : q ≤ x := Nat.le_of_mul_le_mul_left (by omega) hK
    rw [Nat.add_zero, ← Nat.mul_sub]
    exact ⟨by rw [Nat.mul_div_cancel_left _ hK]; rfl, by rw [Nat.mul_mod_right]⟩
  · have hs : (t != 0) = true := by simpa using h0
    have hxq : q + 1 ≤ x := by
      rcases Nat.lt_or_ge q x with c | c
      · exact c
      · have := Nat.mul_le_mul_left K c; omega
    rw [hs]
    have e3 : K * x - (K * q + t) = K * (x - q - 1) + (K - t) := by
      obtain ⟨y, rfl⟩ : ∃ y, x = q + 1 + y := ⟨x - q - 1, by omega⟩
      rw [show q + 1 + y - q - 1 = y from by omega, Nat.mul_add, Nat.mul_add, Nat.mul_one]; omega
    rw [e3]
    refine ⟨?_, ?_⟩
    · rw [Nat.mul_add_div hK, Nat.div_eq_of_lt (show K - t < K by omega)]; rfl
    · rw [Nat.mul_add_mod, Nat.mod_eq_of_lt (by omega)]; simp; omega
end Go.Proofs.Ytcobpbhmpolceaa

/-! A quotient of two digits by one, digit by digit. Plain laws. -/
namespace Go.Proofs.Ytcobpbhmpolceaa
set_option linter.unusedVariables false

/-- A digit of a quotient, tried: what is kept while it is too great. -/
def Dig (u d y1 y0 q r : Nat) : Prop := q * y1 + r = u ∧ r < 4294967296 ∧ q ≤ 4294967297 ∧ (u * 4294967296 + d) / (y1 * 4294967296 + y0) ≤ q

theorem dig_start {u d y1 y0 : Nat} (h1 : 2147483648 ≤ y1) (hy1 : y1 < 4294967296) (h0 : y0 < 4294967296) (hu : u < y1 * 4294967296 + y0) (hd : d < 4294967296) : Dig u d y1 y0 (u / y1) (u % y1) := by
  have hp : 0 < y1 := by omega
  refine ⟨by rw [Nat.mul_comm]; exact Nat.div_add_mod u y1, Nat.lt_trans (Nat.mod_lt _ hp) hy1, ?_, ?_⟩
  · rw [Nat.div_le_iff_le_mul_add_pred hp]
    omega
  · rw [← Nat.lt_succ_iff, Nat.div_lt_iff_lt_mul (by omega)]
    have e := Nat.div_add_mod u y1
    have m := Nat.mod_lt u hp
    generalize u / y1 = q at *
    generalize u % y1 = r at *
    subst e
    rw [Nat.succ_mul, Nat.mul_add q, Nat.add_mul, ← Nat.mul_assoc q, Nat.mul_comm q y1]
    have := Nat.zero_le (q * y0)
    omega

theorem dig_less {u d y1 y0 q r : Nat} (h : Dig u d y1 y0 q r) (hp : 0 < y1) (hu : u < y1 * 4294967296 + y0) (hd : d < 4294967296) (hc : 4294967296 ≤ q ∨ 4294967296 * r + d < q * y0) :
    1 ≤ q ∧ (u * 4294967296 + d) / (y1 * 4294967296 + y0) ≤ q - 1 ∧ (q - 1) * y1 + (r + y1) = u := by
  obtain ⟨e, hr, hq, ht⟩ := h
  have hY : 0 < y1 * 4294967296 + y0 := by omega
  have key : (u * 4294967296 + d) / (y1 * 4294967296 + y0) < q := by
    rw [Nat.div_lt_iff_lt_mul hY]
    rcases hc with hc | hc
    · have : 4294967296 * (y1 * 4294967296 + y0) ≤ q * (y1 * 4294967296 + y0) := Nat.mul_le_mul_right _ hc
      omega
    · subst e
      rw [Nat.mul_add q, Nat.add_mul, ← Nat.mul_assoc q]
      omega
  generalize (u * 4294967296 + d) / (y1 * 4294967296 + y0) = t at *
  have hq1 : 1 ≤ q := Nat.lt_of_le_of_lt (Nat.zero_le t) key
  refine ⟨hq1, Nat.le_sub_one_of_lt key, ?_⟩
  clear hc ht
  obtain ⟨p, rfl⟩ : ∃ p, q = p + 1 := ⟨q - 1, by omega⟩
  rw [Nat.add_sub_cancel]
  rw [Nat.succ_mul] at e
  omega

theorem dig_done {u d y1 y0 q r : Nat} (e : q * y1 + r = u) (ht : (u * 4294967296 + d) / (y1 * 4294967296 + y0) ≤ q) (hY : 0 < y1 * 4294967296 + y0) (hle : q * y0 ≤ 4294967296 * r + d) :
    q = (u * 4294967296 + d) / (y1 * 4294967296 + y0) ∧ (u * 4294967296 + d) % (y1 * 4294967296 + y0) + q * (y1 * 4294967296 + y0) = u * 4294967296 + d := by
  have hq : q = (u * 4294967296 + d) / (y1 * 4294967296 + y0) := by
    refine Nat.le_antisymm ?_ ht
    rw [Nat.le_div_iff_mul_le hY]
    subst e
    rw [Nat.mul_add q, Nat.add_mul, ← Nat.mul_assoc q]
    omega
  refine ⟨hq, ?_⟩
  have := Nat.div_add_mod (u * 4294967296 + d) (y1 * 4294967296 + y0)
  rw [← hq, Nat.mul_comm] at this
  omega

/-- Behind a break. -/
theorem dig_break {y0 q r d : Nat} (hq : q ≤ 4294967296) (h0 : y0 < 4294967296) (hr : 4294967296 ≤ r) : q * y0 ≤ 4294967296 * r + d := by
  have a : q * y0 ≤ 4294967296 * y0 := Nat.mul_le_mul_right _ hq
  omega

theorem dig_twoB (B hi lo y : Nat) (hB : 0 < B) (hy : 0 < y) : (hi * (B * B) + lo) / y = (hi * B + lo / B) / y * B + ((hi * B + lo / B) % y * B + lo % B) / y ∧
    (hi * (B * B) + lo) % y = ((hi * B + lo / B) % y * B + lo % B) % y := by
  have e : hi * (B * B) + lo = (hi * B + lo / B) * B + lo % B := by
    have := Nat.div_add_mod lo B
    rw [Nat.add_mul, Nat.mul_assoc, Nat.mul_comm (lo / B)]
    omega
  rw [e]
  generalize hi * B + lo / B = u
  generalize lo % B = d
  have h := Nat.div_add_mod u y
  have e2 : u * B + d = y * (u / y * B) + (u % y * B + d) := by
    rw [← Nat.mul_assoc]
    have : (y * (u / y) + u % y) * B = u * B := by rw [h]
    rw [Nat.add_mul] at this
    omega
  rw [e2]
  exact ⟨by rw [Nat.mul_add_div hy], by rw [Nat.mul_add_mod]⟩
/-- Two digits are the quotient. -/
theorem dig_two (hi lo y : Nat) (hy : 0 < y) : (hi * 18446744073709551616 + lo) / y = (hi * 4294967296 + lo / 4294967296) / y * 4294967296 + ((hi * 4294967296 + lo / 4294967296) % y * 4294967296 + lo % 4294967296) / y ∧
    (hi * 18446744073709551616 + lo) % y = ((hi * 4294967296 + lo / 4294967296) % y * 4294967296 + lo % 4294967296) % y :=
  dig_twoB 4294967296 hi lo y (by decide) hy
end Go.Proofs.Ytcobpbhmpolceaa
