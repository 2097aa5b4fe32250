import Derived.Test.YtipgpnkdgofdeaaFM
/-! Rounding: the rung of so many least units. -/
namespace Go.Proofs.Ytipgpnkdgofdeaa.Fl
open Ieee

theorem double_word (s : Bool) (r : Nat) : double.word s r = if s then 9223372036854775808 + r else r := rfl
theorem rg_word (s : Bool) {r : Nat} (h : r < 9223372036854775808) : rg (double.word s r) = r := by
  rw [double_word]; unfold rg; split <;> omega
theorem sg_word (s : Bool) {r : Nat} (h : r < 9223372036854775808) : sg (double.word s r) = s := by
  rw [double_word]; unfold sg
  cases s
  · rw [if_neg (by decide), Nat.div_eq_of_lt h]; rfl
  · rw [if_pos rfl, show (9223372036854775808 + r) / 9223372036854775808 = 1 from by omega]; rfl
theorem word_self {a : Nat} (h : a < 18446744073709551616) : double.word (sg a) (rg a) = a := by
  rw [double_word]; unfold sg rg
  by_cases h' : a < 9223372036854775808
  · rw [show a / 9223372036854775808 = 0 from by omega]; simp; omega
  · rw [show a / 9223372036854775808 = 1 from by omega]; simp; omega
theorem key_word (s : Bool) {r : Nat} (h : r < 9223372036854775808) : key (double.word s r) = if s then -(r : Int) else r := by
  unfold key; rw [rg_word s h, sg_word s h]

/-- To the nearest, a tie to the even one. -/
def rne (n d : Nat) : Nat := if 2 ^ d < 2 * (n % 2 ^ d) ∨ (2 ^ d = 2 * (n % 2 ^ d) ∧ n / 2 ^ d % 2 = 1) then n / 2 ^ d + 1 else n / 2 ^ d

theorem lt_log2 (n : Nat) : n < 2 ^ (n.log2 + 1) := Nat.lt_log2_self

theorem cut_eq (s : Bool) (n d : Nat) : Toward.even.cut s n d = rne n d := by
  unfold Toward.cut rne
  simp only [Nat.shiftLeft_eq, Nat.one_mul]
  by_cases h : d ≤ n.log2 + 2
  · rw [Nat.min_eq_left h]
    by_cases h1 : 2 ^ d < 2 * (n % 2 ^ d)
    · rw [if_pos (Or.inl h1)]; simp [h1]
    · by_cases h2 : 2 ^ d = 2 * (n % 2 ^ d)
      · by_cases h3 : n / 2 ^ d % 2 = 1
        · rw [if_pos (Or.inr ⟨h2, h3⟩)]; simp [← h2, h3]
        · rw [if_neg (by omega)]; simp [← h2, h3]
      · rw [if_neg (by omega)]; simp [h1, h2]
  · have h1 := lt_log2 n
    have h2 : 2 ^ (n.log2 + 2) = 2 * 2 ^ (n.log2 + 1) := by rw [Nat.pow_succ, Nat.mul_comm]
    have h3 : 2 ^ (n.log2 + 2) ≤ 2 ^ d := Nat.pow_le_pow_right (by decide) (by omega)
    have a1 : n / 2 ^ d = 0 := Nat.div_eq_of_lt (by omega)
    have a2 : n % 2 ^ d = n := Nat.mod_eq_of_lt (by omega)
    have a3 : n / 2 ^ (n.log2 + 2) = 0 := Nat.div_eq_of_lt (by omega)
    have a4 : n % 2 ^ (n.log2 + 2) = n := Nat.mod_eq_of_lt (by omega)
    rw [Nat.min_eq_right (by omega), a1, a2, a3, a4, if_neg (by omega)]
    have e1 : decide (2 ^ (n.log2 + 2) < 2 * n) = false := by simp; omega
    have e2 : (2 ^ (n.log2 + 2) == 2 * n) = false := by simp; omega
    simp [e1, e2]

theorem rne_scale (n d k : Nat) : rne (n * 2 ^ k) (d + k) = rne n d := by
  have hk : 0 < 2 ^ k := Nat.two_pow_pos _
  unfold rne
  rw [Nat.pow_add, Nat.mul_div_mul_right _ _ hk, Nat.mul_mod_mul_right]
  generalize n % 2 ^ d = r
  generalize n / 2 ^ d = q
  have e1 : 2 ^ d * 2 ^ k < 2 * (r * 2 ^ k) ↔ 2 ^ d < 2 * r := by rw [← Nat.mul_assoc]; exact Nat.mul_lt_mul_right hk
  have e2 : 2 ^ d * 2 ^ k = 2 * (r * 2 ^ k) ↔ 2 ^ d = 2 * r := by rw [← Nat.mul_assoc]; exact Nat.mul_left_inj (by omega)
  simp only [e1, e2]

theorem rne_zero (n : Nat) : rne n 0 = n := by unfold rne; simp [Nat.mod_one]

theorem rne_exact (n d : Nat) : rne (n * 2 ^ d) d = n := by
  have := rne_scale n 0 d
  rw [Nat.zero_add] at this
  rw [this, rne_zero]

theorem rne_bounds (n d : Nat) : n / 2 ^ d ≤ rne n d ∧ rne n d ≤ n / 2 ^ d + 1 := by unfold rne; split <;> omega

theorem rne_mono {n m : Nat} (d : Nat) (h : n ≤ m) : rne n d ≤ rne m d := by
  have hq : n / 2 ^ d ≤ m / 2 ^ d := Nat.div_le_div_right h
  rcases Nat.lt_or_eq_of_le hq with hq' | hq'
  · have := rne_bounds n d; have := rne_bounds m d; omega
  · have h1 := Nat.div_add_mod n (2 ^ d)
    have h2 := Nat.div_add_mod m (2 ^ d)
    unfold rne
    rw [hq'] at *
    generalize n % 2 ^ d = r at *
    generalize m % 2 ^ d = s at *
    generalize 2 ^ d * (m / 2 ^ d) = x at *
    have : r ≤ s := by omega
    split <;> split <;> omega

/-- The rung nearest to so many least units. -/
def R (n : Nat) : Nat := min ((n.log2 - 52) * 4503599627370496 + rne n (n.log2 - 52)) rinf

theorem R_zero : R 0 = 0 := by decide
theorem R_le (n : Nat) : R n ≤ rinf := Nat.min_le_right _ _
theorem R_lt (n : Nat) : R n < 9223372036854775808 := Nat.lt_of_le_of_lt (R_le n) (by decide)

theorem log2_mul_pow {m : Nat} (hm : m ≠ 0) (e : Nat) : (m * 2 ^ e).log2 = m.log2 + e := by
  have h0 : m * 2 ^ e ≠ 0 := by have := Nat.two_pow_pos e; exact Nat.mul_ne_zero hm (by omega)
  refine (Nat.log2_eq_iff h0).2 ⟨?_, ?_⟩
  · rw [Nat.pow_add]; exact Nat.mul_le_mul_right _ ((Nat.le_log2 hm).1 (Nat.le_refl _))
  · rw [show m.log2 + e + 1 = (m.log2 + 1) + e from by omega, Nat.pow_add]; exact (Nat.mul_lt_mul_right (Nat.two_pow_pos _)).2 (lt_log2 m)

theorem nearest_units (s : Bool) (m e : Nat) : double.nearest s m (-1074 + (e : Int)) = double.word s (R (m * 2 ^ e)) := by
  unfold Format.nearest
  by_cases hm : m = 0
  · subst hm; rw [if_pos rfl]; simp [R_zero]
  · rw [if_neg hm]
    have hl : double.leastPlace = -1074 := rfl
    have hb : double.binade = 4503599627370496 := rfl
    have hf : double.fractionBits = 52 := rfl
    have hi : double.infRung = rinf := rfl
    rw [hl, hb, hf, hi]
    simp only [cut_eq, Nat.shiftLeft_eq]
    unfold R
    rw [log2_mul_pow hm]
    have e1 : (max (-1074 + (e : Int) + (m.log2 : Int) - ((52 : Nat) : Int)) (-1074)) = -1074 + ((m.log2 + e - 52 : Nat) : Int) := by omega
    rw [e1]
    generalize hd : m.log2 + e - 52 = d
    have e2 : (-1074 + (e : Int) - (-1074 + (d : Int))).toNat = e - d := by omega
    have e3 : (-1074 + (d : Int) - (-1074 + (e : Int))).toNat = d - e := by omega
    have e4 : (-1074 + (d : Int) - -1074).toNat = d := by omega
    rw [e2, e3, e4]
    have e5 : rne (m * 2 ^ (e - d)) (d - e) = rne (m * 2 ^ e) d := by
      by_cases h : e ≤ d
      · rw [show e - d = 0 from by omega]
        have := rne_scale m (d - e) e
        rw [Nat.sub_add_cancel h] at this
        rw [this]; simp
      · rw [show d - e = 0 from by omega, rne_zero]
        have : m * 2 ^ e = m * 2 ^ (e - d) * 2 ^ d := by rw [Nat.mul_assoc, ← Nat.pow_add, Nat.sub_add_cancel (by omega)]
        rw [this, rne_exact]
    rw [e5]

theorem pow53 (n : Nat) : rne n (n.log2 - 52) ≤ 9007199254740992 := by
  have h1 := lt_log2 n
  have h2 := (rne_bounds n (n.log2 - 52)).2
  have h3 : n / 2 ^ (n.log2 - 52) < 9007199254740992 := by
    rw [Nat.div_lt_iff_lt_mul (Nat.two_pow_pos _)]
    have : (9007199254740992 : Nat) = 2 ^ 53 := by decide
    rw [this, ← Nat.pow_add]
    exact Nat.lt_of_lt_of_le h1 (Nat.pow_le_pow_right (by decide) (by omega))
  omega

theorem pow52 {n : Nat} (h : 52 ≤ n.log2) : 4503599627370496 ≤ rne n (n.log2 - 52) := by
  have h0 : n ≠ 0 := by rintro rfl; simp at h
  have h2 := (rne_bounds n (n.log2 - 52)).1
  have h3 : 4503599627370496 ≤ n / 2 ^ (n.log2 - 52) := by
    rw [Nat.le_div_iff_mul_le (Nat.two_pow_pos _)]
    have : (4503599627370496 : Nat) = 2 ^ 52 := by decide
    rw [this, ← Nat.pow_add]
    exact (Nat.le_log2 h0).1 (by omega)
  omega

theorem log2_mono {n m : Nat} (h : n ≤ m) : n.log2 ≤ m.log2 := by
  by_cases h0 : n = 0
  · subst h0; simp
  · exact (Nat.le_log2 (by omega)).2 (Nat.le_trans ((Nat.le_log2 h0).1 (Nat.le_refl _)) h)

theorem R_mono {n m : Nat} (h : n ≤ m) : R n ≤ R m := by
  have hl := log2_mono h
  have : (n.log2 - 52) * 4503599627370496 + rne n (n.log2 - 52) ≤ (m.log2 - 52) * 4503599627370496 + rne m (m.log2 - 52) := by
    rcases Nat.lt_or_ge (n.log2 - 52) (m.log2 - 52) with h1 | h1
    · have := pow53 n
      have := @pow52 m (by omega)
      omega
    · have e : n.log2 - 52 = m.log2 - 52 := by omega
      rw [e]
      have := rne_mono (m.log2 - 52) h
      omega
  unfold R; omega

theorem R_V {r : Nat} (h : r ≤ rinf) : R (V r) = r := by
  have hr : rinf = 9218868437227405312 := rfl
  unfold V
  split
  · rename_i h'
    unfold R
    have : r.log2 ≤ 52 := by
      by_cases h0 : r = 0
      · subst h0; simp
      · have : r.log2 < 52 := (Nat.log2_lt h0).2 (by omega)
        omega
    rw [show r.log2 - 52 = 0 from by omega, rne_zero]
    omega
  · rename_i h'
    have hl : (4503599627370496 + r % 4503599627370496).log2 = 52 := (Nat.log2_eq_iff (by omega)).2 ⟨by omega, by omega⟩
    unfold R
    rw [log2_mul_pow (by omega), hl, show 52 + (r / 4503599627370496 - 1) - 52 = r / 4503599627370496 - 1 from by omega, rne_exact]
    omega

/-- The rung of so many units with a sign, with that sign. -/
def RS (S : Int) : Int := if S < 0 then -(R S.natAbs : Int) else R S.natAbs

theorem RS_mono {S T : Int} (h : S ≤ T) : RS S ≤ RS T := by
  unfold RS
  split <;> split
  · have := @R_mono T.natAbs S.natAbs (by omega); omega
  · omega
  · omega
  · have := @R_mono S.natAbs T.natAbs (by omega); omega

theorem key_round (s : Bool) (S : Int) (h : S ≠ 0 → s = decide (S < 0)) : key (double.word s (R S.natAbs)) = RS S := by
  rw [key_word s (R_lt _)]
  unfold RS
  by_cases h0 : S = 0
  · subst h0; simp [R_zero]
  · rw [h h0]; simp

/-- A sum of finite words. -/
theorem add_fin {a b : Nat} (ha : rg a < rinf) (hb : rg b < rinf) :
    double.add a b = some (double.word (if sv a + sv b = 0 then sg a && sg b else decide (sv a + sv b < 0)) (R (sv a + sv b).natAbs)) := by
  obtain ⟨m, e, h1, h2⟩ := read_fin ha
  obtain ⟨n, f, h3, h4⟩ := read_fin hb
  unfold Format.add
  rw [h1, h3]
  simp only [Datum.sum, Option.map_some]
  rw [min_pl]
  have k1 := signed_base (sg a) m e (min e f) (Nat.min_le_left _ _)
  have k2 := signed_base (sg b) n f (min e f) (Nat.min_le_right _ _)
  rw [h2] at k1
  rw [h4] at k2
  generalize signed (sg a) m ((-1074 + (e : Int)) - (-1074 + ((min e f : Nat) : Int))).toNat = x at *
  generalize signed (sg b) n ((-1074 + (f : Int)) - (-1074 + ((min e f : Nat) : Int))).toNat = y at *
  have hS : (x + y) * ((2 ^ min e f : Nat) : Int) = sv a + sv b := by rw [Int.add_mul, k1, k2]; rfl
  have hp : (0 : Int) < ((2 ^ min e f : Nat) : Int) := by have := Nat.two_pow_pos (min e f); omega
  have hz : x + y = 0 ↔ sv a + sv b = 0 := by
    rw [← hS]; constructor
    · intro h; rw [h]; simp
    · intro h; rcases Int.mul_eq_zero.1 h with h | h <;> omega
  have hn : x + y < 0 ↔ sv a + sv b < 0 := by
    rw [← hS]; constructor
    · intro h; exact Int.mul_neg_of_neg_of_pos h hp
    · intro h; rcases Int.lt_or_le (x + y) 0 with h' | h'
      · exact h'
      · have := Int.mul_nonneg h' (Int.le_of_lt hp); omega
  have ha : (x + y).natAbs * 2 ^ min e f = (sv a + sv b).natAbs := by rw [← hS, Int.natAbs_mul]; rfl
  show some (double.nearest _ _ _) = _
  rw [nearest_units, ha]
  by_cases h0 : sv a + sv b = 0 <;> simp [hz, hn, h0]

theorem trunc_eq (s : Bool) (n d : Nat) : Toward.zero.cut s n d = n / 2 ^ d := by
  unfold Toward.cut
  simp only [Nat.shiftLeft_eq, Nat.one_mul, Bool.toNat_false, Nat.add_zero]
  by_cases h : d ≤ n.log2 + 2
  · rw [Nat.min_eq_left h]
  · have h1 := lt_log2 n
    have h2 : 2 ^ (n.log2 + 2) = 2 * 2 ^ (n.log2 + 1) := by rw [Nat.pow_succ, Nat.mul_comm]
    have h3 : 2 ^ (n.log2 + 2) ≤ 2 ^ d := Nat.pow_le_pow_right (by decide) (by omega)
    rw [Nat.min_eq_right (by omega), Nat.div_eq_of_lt (by omega), Nat.div_eq_of_lt (by omega)]

/-- 2 to the 1074: the least units in 1. -/
def ex1074 : Nat := 1074
def tw : Nat := 2 ^ ex1074
theorem tw_pos : 0 < tw := by decide +kernel
theorem tw_split {e : Nat} (h : 1074 ≤ e) : 2 ^ e = 2 ^ (e - 1074) * tw := by
  have h' : e - 1074 + ex1074 = e := by unfold ex1074; omega
  unfold tw
  rw [← Nat.pow_add, h']

/-- A finite word as a whole number. -/
theorem toInt_fin {a : Nat} (h : rg a < rinf) : (double.read a).toInt .zero = some (if sg a then -((V (rg a) / tw : Nat) : Int) else ((V (rg a) / tw : Nat) : Int)) := by
  obtain ⟨m, e, h1, h2⟩ := read_fin h
  rw [h1]
  simp only [Datum.toInt, Datum.integral]
  rw [trunc_eq, signed_eq, Nat.shiftLeft_eq]
  have key : m * 2 ^ (-1074 + (e : Int)).toNat / 2 ^ (-(-1074 + (e : Int))).toNat = V (rg a) / tw := by
    rw [← h2]
    by_cases h' : 1074 ≤ e
    · rw [show (-1074 + (e : Int)).toNat = e - 1074 from by omega, show (-(-1074 + (e : Int))).toNat = 0 from by omega, Nat.pow_zero, Nat.div_one]
      have : m * 2 ^ e = m * 2 ^ (e - 1074) * tw := by rw [Nat.mul_assoc, ← tw_split h']
      rw [this, Nat.mul_div_cancel _ tw_pos]
    · rw [show (-1074 + (e : Int)).toNat = 0 from by omega, show (-(-1074 + (e : Int))).toNat = 1074 - e from by omega, Nat.pow_zero, Nat.mul_one]
      have : tw = 2 ^ (1074 - e) * 2 ^ e := by rw [← Nat.pow_add, show 1074 - e + e = ex1074 from by unfold ex1074; omega]; rfl
      rw [this, Nat.mul_div_mul_right _ _ (Nat.two_pow_pos _)]
  rw [key]; simp

theorem V_2_63 : V 4890909195324358656 = 9223372036854775808 * tw := by decide +kernel

theorem order_lt {a b : Nat} (h : double.order a b = some .lt) : rg a ≤ rinf ∧ rg b ≤ rinf ∧ key a < key b := by
  rcases Nat.lt_or_ge rinf (rg a) with h1 | h1
  · rw [order_nan_l h1] at h; cases h
  · rcases Nat.lt_or_ge rinf (rg b) with h2 | h2
    · rw [order_nan_r h2] at h; cases h
    · rw [order_key h1 h2] at h
      simp only [Option.some.injEq, compare, compareOfLessAndEq] at h
      refine ⟨h1, h2, ?_⟩
      split at h
      · assumption
      · split at h <;> cases h

theorem order_gt {a b : Nat} (h : double.order a b = some .gt) : rg a ≤ rinf ∧ rg b ≤ rinf ∧ key b < key a := by
  rcases Nat.lt_or_ge rinf (rg a) with h1 | h1
  · rw [order_nan_l h1] at h; cases h
  · rcases Nat.lt_or_ge rinf (rg b) with h2 | h2
    · rw [order_nan_r h2] at h; cases h
    · rw [order_key h1 h2] at h
      simp only [Option.some.injEq, compare, compareOfLessAndEq] at h
      refine ⟨h1, h2, ?_⟩
      split at h
      · cases h
      · split at h
        · cases h
        · omega

theorem order_eq {a b : Nat} (h : double.order a b = some .eq) : rg a ≤ rinf ∧ rg b ≤ rinf ∧ key a = key b := by
  rcases Nat.lt_or_ge rinf (rg a) with h1 | h1
  · rw [order_nan_l h1] at h; cases h
  · rcases Nat.lt_or_ge rinf (rg b) with h2 | h2
    · rw [order_nan_r h2] at h; cases h
    · rw [order_key h1 h2] at h
      simp only [Option.some.injEq, compare, compareOfLessAndEq] at h
      refine ⟨h1, h2, ?_⟩
      split at h
      · cases h
      · split at h
        · assumption
        · cases h

theorem int_range {x : Nat} (h1 : double.order x 14114281232179134464 = some .gt ∨ double.order x 14114281232179134464 = some .eq) (h2 : double.order x 4890909195324358656 = some .lt) :
    ∃ n : Int, (double.read x).toInt .zero = some n ∧ -9223372036854775808 ≤ n ∧ n < 9223372036854775808 := by
  have h1' : rg x ≤ rinf ∧ key 14114281232179134464 ≤ key x := by
    rcases h1 with h | h
    · have := order_gt h; omega
    · have := order_eq h; omega
  obtain ⟨_, _, h3⟩ := order_lt h2
  have k1 : key 14114281232179134464 = -4890909195324358656 := by decide +kernel
  have k2 : key 4890909195324358656 = 4890909195324358656 := by decide +kernel
  rw [k1] at h1'
  rw [k2] at h3
  have hr : rinf = 9218868437227405312 := rfl
  have hV := V_2_63
  have hk : key x = if sg x then -(rg x : Int) else rg x := rfl
  have hd : V (rg x) / tw ≤ 9223372036854775808 ∧ (¬ sg x = true → V (rg x) / tw < 9223372036854775808) := by
    constructor
    · have : V (rg x) ≤ 9223372036854775808 * tw := by rw [← hV]; exact V_le (by split at hk <;> omega)
      have := Nat.div_le_div_right (c := tw) this
      rwa [Nat.mul_div_cancel _ tw_pos] at this
    · intro h
      have : V (rg x) < 9223372036854775808 * tw := by rw [← hV]; exact V_lt (by rw [if_neg h] at hk; omega)
      exact (Nat.div_lt_iff_lt_mul tw_pos).2 this
  have hf := toInt_fin (a := x) (by split at hk <;> omega)
  generalize V (rg x) / tw = q at *
  refine ⟨_, hf, ?_, ?_⟩
  · split <;> omega
  · split
    · omega
    · have := hd.2 ‹_›; omega
#print axioms int_range
end Go.Proofs.Ytipgpnkdgofdeaa.Fl
