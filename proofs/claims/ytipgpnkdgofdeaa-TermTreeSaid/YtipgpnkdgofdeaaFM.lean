import Ieee.Arith
import Derived.Laws.FloatBits
/-! Reals as words: the numbers that they are, how they stand. Plain numbers: no Go in sight. -/
namespace Go.Proofs.Ytipgpnkdgofdeaa.Fl
open Ieee

/-- Infinity's rung. -/
def rinf : Nat := 9218868437227405312
/-- A word's rung, its sign. -/
def rg (a : Nat) : Nat := a % 9223372036854775808
def sg (a : Nat) : Bool := a / 9223372036854775808 % 2 == 1
/-- How many least units a rung is. -/
def V (r : Nat) : Nat := if r < 4503599627370496 then r else (4503599627370496 + r % 4503599627370496) * 2 ^ (r / 4503599627370496 - 1)
/-- Where a word stands, noughts alike. -/
def key (a : Nat) : Int := if sg a then -(rg a : Int) else rg a

theorem read_eq (a : Nat) : double.read a = if rg a < 4503599627370496 then .number (sg a) (rg a) (-1074)
    else if rg a < rinf then .number (sg a) (4503599627370496 + rg a % 4503599627370496) (-1074 + ((rg a / 4503599627370496 - 1 : Nat) : Int))
    else if rg a = rinf then .infinity (sg a) else .nan (sg a) (rg a - rinf) := rfl

theorem V_succ (r : Nat) : V r < V (r + 1) := by
  unfold V
  by_cases h : r + 1 < 4503599627370496
  · rw [if_pos (by omega), if_pos h]; omega
  · rw [if_neg h]
    by_cases h' : r < 4503599627370496
    · have : r = 4503599627370495 := by omega
      subst this; decide
    · rw [if_neg h']
      by_cases hm : (r + 1) % 4503599627370496 = 0
      · have e1 : (r + 1) / 4503599627370496 - 1 = (r / 4503599627370496 - 1) + 1 := by omega
        have e2 : r % 4503599627370496 = 4503599627370495 := by omega
        rw [e1, e2, hm, Nat.pow_succ]
        have : 0 < 2 ^ (r / 4503599627370496 - 1) := Nat.two_pow_pos _
        generalize 2 ^ (r / 4503599627370496 - 1) = x at *
        omega
      · have e1 : (r + 1) / 4503599627370496 = r / 4503599627370496 := by omega
        have e2 : (r + 1) % 4503599627370496 = r % 4503599627370496 + 1 := by omega
        rw [e1, e2]
        exact (Nat.mul_lt_mul_right (Nat.two_pow_pos _)).2 (by omega)

theorem V_lt {r s : Nat} (h : r < s) : V r < V s := by
  induction h with
  | refl => exact V_succ r
  | step _ ih => exact Nat.lt_trans ih (V_succ _)

theorem V_le {r s : Nat} (h : r ≤ s) : V r ≤ V s := by
  rcases Nat.lt_or_eq_of_le h with h | rfl
  · exact Nat.le_of_lt (V_lt h)
  · exact Nat.le_refl _

theorem V_lt_iff {r s : Nat} : V r < V s ↔ r < s :=
  ⟨fun h => by rcases Nat.lt_or_ge r s with h' | h'; exact h'; have := V_le h'; omega, V_lt⟩

theorem V_inj {r s : Nat} (h : V r = V s) : r = s := by
  rcases Nat.lt_trichotomy r s with h' | h' | h'
  · have := V_lt h'; omega
  · exact h'
  · have := V_lt h'; omega

theorem V_zero : V 0 = 0 := by decide

/-- How many least units a number is, with its sign. -/
def sv (a : Nat) : Int := if sg a then -(V (rg a) : Int) else V (rg a)

theorem sv_lt_iff (a b : Nat) : sv a < sv b ↔ key a < key b := by
  have h1 := @V_lt_iff (rg a) (rg b)
  have h2 := @V_lt_iff (rg b) (rg a)
  have h3 := @V_lt_iff 0 (rg a)
  have h4 := @V_lt_iff 0 (rg b)
  rw [V_zero] at h3 h4
  unfold sv key
  split <;> split <;> omega

theorem sv_eq_iff (a b : Nat) : sv a = sv b ↔ key a = key b := by
  have h1 := sv_lt_iff a b
  have h2 := sv_lt_iff b a
  omega

/-- A finite word is read as its units, at some place. -/
theorem read_fin {a : Nat} (h : rg a < rinf) : ∃ m e : Nat, double.read a = .number (sg a) m (-1074 + (e : Int)) ∧ m * 2 ^ e = V (rg a) := by
  rw [read_eq]
  by_cases h1 : rg a < 4503599627370496
  · exact ⟨rg a, 0, by rw [if_pos h1]; rfl, by rw [V, if_pos h1]; simp⟩
  · exact ⟨_, _, by rw [if_neg h1, if_pos h], by rw [V, if_neg h1]⟩

theorem read_inf {a : Nat} (h : rg a = rinf) : double.read a = .infinity (sg a) := by
  rw [read_eq, h, if_neg (by decide), if_neg (by decide), if_pos rfl]

theorem read_nan {a : Nat} (h : rinf < rg a) : double.read a = .nan (sg a) (rg a - rinf) := by
  have : rinf = 9218868437227405312 := rfl
  rw [read_eq, if_neg (by omega), if_neg (by omega), if_neg (by omega)]

theorem signed_eq (s : Bool) (m e : Nat) : signed s m e = if s then -((m * 2 ^ e : Nat) : Int) else ((m * 2 ^ e : Nat) : Int) := by
  unfold signed; rw [Nat.shiftLeft_eq]

theorem compare_mul {a b : Int} {c : Nat} (hc : 0 < c) : compare (a * c) (b * c) = compare a b := by
  have hc' : (0 : Int) < c := by omega
  simp only [compare, compareOfLessAndEq]
  have h1 : a * (c : Int) < b * c ↔ a < b := Int.mul_lt_mul_right hc'
  have h2 : a * (c : Int) = b * c ↔ a = b := Int.mul_eq_mul_right_iff (by omega)
  simp only [h1, h2]

theorem compare_of {a b c d : Int} (h1 : a < b ↔ c < d) (h2 : a = b ↔ c = d) : compare a b = compare c d := by
  simp only [compare, compareOfLessAndEq, h1, h2]

theorem min_pl (e f : Nat) : min (-1074 + (e : Int)) (-1074 + (f : Int)) = -1074 + ((min e f : Nat) : Int) := by omega

/-- A signed magnitude over a base, in least units. -/
theorem signed_base (s : Bool) (m e d : Nat) (h : d ≤ e) : signed s m ((-1074 + (e : Int)) - (-1074 + (d : Int))).toNat * ((2 ^ d : Nat) : Int) = if s then -((m * 2 ^ e : Nat) : Int) else ((m * 2 ^ e : Nat) : Int) := by
  have e1 : ((-1074 + (e : Int)) - (-1074 + (d : Int))).toNat = e - d := by omega
  have e2 : (m * 2 ^ (e - d)) * 2 ^ d = m * 2 ^ e := by rw [Nat.mul_assoc, ← Nat.pow_add, Nat.sub_add_cancel h]
  rw [e1, signed_eq]
  split
  · rw [Int.neg_mul, ← Int.natCast_mul, e2]
  · rw [← Int.natCast_mul, e2]

theorem order_fin {a b : Nat} (ha : rg a < rinf) (hb : rg b < rinf) : double.order a b = some (compare (sv a) (sv b)) := by
  obtain ⟨m, e, h1, h2⟩ := read_fin ha
  obtain ⟨n, f, h3, h4⟩ := read_fin hb
  unfold Format.order
  rw [h1, h3]
  simp only [Datum.order]
  rw [min_pl, ← compare_mul (Nat.two_pow_pos (min e f)), signed_base _ _ _ _ (Nat.min_le_left _ _), signed_base _ _ _ _ (Nat.min_le_right _ _), h2, h4]
  rfl

theorem order_key {a b : Nat} (ha : rg a ≤ rinf) (hb : rg b ≤ rinf) : double.order a b = some (compare (key a) (key b)) := by
  have hr : rinf = 9218868437227405312 := rfl
  rcases Nat.lt_or_eq_of_le ha with ha' | ha' <;> rcases Nat.lt_or_eq_of_le hb with hb' | hb'
  · rw [order_fin ha' hb', compare_of (sv_lt_iff a b) (sv_eq_iff a b)]
  · obtain ⟨m, e, h1, _⟩ := read_fin ha'
    unfold Format.order
    rw [h1, read_inf hb']
    simp only [Datum.order, compare, compareOfLessAndEq, key, hb']
    cases sg b <;> cases sg a <;> simp <;> (first | (intro h; omega) | (rw [if_pos (by omega)]) | (rw [if_neg (by omega), if_neg (by omega)]))
  · obtain ⟨m, e, h1, _⟩ := read_fin hb'
    unfold Format.order
    rw [h1, read_inf ha']
    simp only [Datum.order, compare, compareOfLessAndEq, key, ha']
    cases sg b <;> cases sg a <;> simp <;> (first | (intro h; omega) | (rw [if_pos (by omega)]) | (rw [if_neg (by omega), if_neg (by omega)]))
  · unfold Format.order
    rw [read_inf ha', read_inf hb']
    simp only [Datum.order, compare, compareOfLessAndEq, key, ha', hb']
    cases sg b <;> cases sg a <;> simp <;> decide

theorem order_nan_l {a b : Nat} (h : rinf < rg a) : double.order a b = none := by
  unfold Format.order; rw [read_nan h]; rfl
theorem order_nan_r {a b : Nat} (h : rinf < rg b) : double.order a b = none := by
  unfold Format.order; rw [read_nan h]; cases double.read a <;> rfl

theorem order_self {a : Nat} : double.order a a = some .eq ↔ rg a ≤ rinf := by
  constructor
  · intro h
    rcases Nat.lt_or_ge rinf (rg a) with h' | h'
    · rw [order_nan_l h'] at h; cases h
    · exact h'
  · intro h
    rw [order_key h h]
    simp [compare, compareOfLessAndEq]
#print axioms order_self
end Go.Proofs.Ytipgpnkdgofdeaa.Fl
