import Derived.Test.YtcobpbhmpolceaaFN
/-! Whole numbers as reals. Plain laws. -/
namespace Go.Proofs.Ytcobpbhmpolceaa
open Go.RowKit Ieee

theorem tw_eq : 2 ^ ex1074 = tw := by unfold tw; exact Eq.refl _

theorem RP_whole (m : Nat) : RP m 0 = R (m * tw) := by
  have h := RP_units m ex1074
  rw [show (-1074 + ((ex1074 : Nat) : Int)) = 0 from rfl] at h
  exact h

theorem fof_eq (n : Int) : fof n = (double.word (decide (n < 0)) (R (n.natAbs * tw)) : Nat) := by
  have e : floatOfInt .f64 n = double.word (decide (n < 0)) (R (n.natAbs * tw)) := by
    show double.nearest (decide (n < 0)) n.natAbs 0 = _
    rw [nearest_eq, RP_whole]
  unfold fof
  rw [e, fbits_ok]
  rw [rg_word _ (R_lt _)]; exact R_le _

theorem fof_rg (n : Int) : rg (fof n).toNat = R (n.natAbs * tw) := by rw [fof_eq, Int.toNat_natCast, rg_word _ (R_lt _)]
theorem fof_sg (n : Int) : sg (fof n).toNat = decide (n < 0) := by rw [fof_eq, Int.toNat_natCast, sg_word _ (R_lt _)]
theorem fof_Wd (n : Int) : Wd (fof n) := by
  rw [fof_eq]; exact ⟨by omega, by have := @word_lt (decide (n < 0)) _ (R_lt (n.natAbs * tw)); omega⟩

theorem tw_int : (0 : Int) < (tw : Int) := by have := tw_pos; omega
theorem abs_tw (n : Int) : (n * (tw : Int)).natAbs = n.natAbs * tw := by rw [Int.natAbs_mul]; rfl
theorem neg_tw (n : Int) : n * (tw : Int) < 0 ↔ n < 0 := by
  constructor
  · intro h
    rcases Int.lt_or_le n 0 with h' | h'
    · exact h'
    · have := Int.mul_nonneg h' (Int.le_of_lt tw_int); omega
  · intro h; exact Int.mul_neg_of_neg_of_pos h tw_int
theorem zero_tw (n : Int) : n * (tw : Int) = 0 ↔ n = 0 := by
  have := tw_int
  constructor
  · intro h; rcases Int.mul_eq_zero.1 h with h | h <;> omega
  · rintro rfl; simp

theorem fof_key (n : Int) : key (fof n).toNat = RS (n * (tw : Int)) := by
  rw [fof_eq, Int.toNat_natCast, ← abs_tw, key_round]
  intro _
  simp only [neg_tw]

theorem fof_mono {n m : Int} (h : n ≤ m) : fless (fof m) (fof n) = false := by
  rw [Bool.eq_false_iff, ne_eq, fless_iff, fof_key, fof_key]
  have := RS_mono (Int.mul_le_mul_of_nonneg_right h (Int.le_of_lt tw_int))
  omega

theorem V_R {c D : Nat} (h1 : 4503599627370496 ≤ c) (h2 : c < 9007199254740992) (h : D * 4503599627370496 + c < rinf) : V (R (c * 2 ^ D)) = c * 2 ^ D ∧ R (c * 2 ^ D) < rinf := by
  have hl : c.log2 = 52 := (Nat.log2_eq_iff (by omega)).2 ⟨by omega, by omega⟩
  have e : R (c * 2 ^ D) = D * 4503599627370496 + c := by
    unfold R
    rw [log2_mul_pow (by omega), hl, show 52 + D - 52 = D from by omega, rne_exact]
    omega
  refine ⟨?_, by rw [e]; exact h⟩
  rw [e]
  unfold V
  rw [if_neg (by omega), show (D * 4503599627370496 + c) % 4503599627370496 = c - 4503599627370496 from by omega, show (D * 4503599627370496 + c) / 4503599627370496 - 1 = D from by omega, show 4503599627370496 + (c - 4503599627370496) = c from by omega]

theorem exact_whole {n : Nat} (h : n ≤ 9007199254740992) : V (R (n * tw)) = n * tw ∧ R (n * tw) < rinf := by
  have hr : rinf = 9218868437227405312 := rfl
  by_cases h0 : n = 0
  · subst h0; rw [Nat.zero_mul, R_zero, V_zero]; exact ⟨rfl, by decide⟩
  by_cases h1 : n = 9007199254740992
  · have e : n * tw = 4503599627370496 * 2 ^ (ex1074 + 1) := by rw [h1, Nat.pow_succ, tw_eq]; omega
    rw [e]
    exact V_R (by omega) (by omega) (by unfold ex1074; omega)
  · have hl : n.log2 < 53 := (Nat.log2_lt h0).2 (by omega)
    have e : n * tw = n * 2 ^ (52 - n.log2) * 2 ^ (ex1074 - (52 - n.log2)) := by
      rw [Nat.mul_assoc, ← Nat.pow_add, show 52 - n.log2 + (ex1074 - (52 - n.log2)) = ex1074 from by unfold ex1074; omega, tw_eq]
    have hlog : (n * 2 ^ (52 - n.log2)).log2 = 52 := by rw [log2_mul_pow h0]; omega
    have hne : n * 2 ^ (52 - n.log2) ≠ 0 := by have := Nat.two_pow_pos (52 - n.log2); exact Nat.mul_ne_zero h0 (by omega)
    have hb := (Nat.log2_eq_iff hne).1 hlog
    rw [e]
    exact V_R (by omega) (by omega) (by unfold ex1074; omega)

/-- A whole number of at most 53 bits. -/
def Small (n : Int) : Prop := -9007199254740992 ≤ n ∧ n ≤ 9007199254740992

theorem fof_fin {n : Int} (h : Small n) : rg (fof n).toNat < rinf := by rw [fof_rg]; exact (exact_whole (by obtain ⟨a, b⟩ := h; omega)).2
theorem fof_V {n : Int} (h : Small n) : V (rg (fof n).toNat) = n.natAbs * tw := by rw [fof_rg]; exact (exact_whole (by obtain ⟨a, b⟩ := h; omega)).1
theorem fof_sv {n : Int} (h : Small n) : sv (fof n).toNat = n * (tw : Int) := by
  unfold sv
  rw [fof_V h, fof_sg, Int.natCast_mul]
  by_cases h0 : n < 0
  · rw [if_pos (by simpa using h0), ← Int.neg_mul]; congr 1; omega
  · rw [if_neg (by simpa using h0)]; congr 1; omega

theorem fless_whole {n m : Int} (hn : Small n) (hm : Small m) : fless (fof n) (fof m) = decide (n < m) := by
  rw [Bool.eq_iff_iff, fless_iff, ← sv_lt_iff, fof_sv hn, fof_sv hm, decide_eq_true_eq, Int.mul_lt_mul_right tw_int]
  have := fof_fin hn; have := fof_fin hm; omega
theorem fsame_whole {n m : Int} (hn : Small n) (hm : Small m) : fsame (fof n) (fof m) = (n == m) := by
  have := tw_int
  rw [Bool.eq_iff_iff, fsame_iff, ← sv_eq_iff, fof_sv hn, fof_sv hm, beq_iff_eq, Int.mul_eq_mul_right_iff (by omega)]
  have := fof_fin hn; have := fof_fin hm; omega

theorem fint_whole {n : Int} (h : Small n) : fint (fof n) = some n := by
  have hf := fof_fin h
  have c1 : key 14114281232179134464 = -4890909195324358656 := by decide +kernel
  have c2 : key 4890909195324358656 = 4890909195324358656 := by decide +kernel
  have s1 : sv 14114281232179134464 = -9223372036854775808 * (tw : Int) := by
    have : sv 14114281232179134464 = -((V 4890909195324358656 : Nat) : Int) := by decide +kernel
    rw [this, V_2_63, Int.natCast_mul, ← Int.neg_mul]; rfl
  have s2 : sv 4890909195324358656 = 9223372036854775808 * (tw : Int) := by
    have : sv 4890909195324358656 = ((V 4890909195324358656 : Nat) : Int) := by decide +kernel
    rw [this, V_2_63, Int.natCast_mul]; rfl
  have k1 : key 14114281232179134464 < key (fof n).toNat := by
    rw [← sv_lt_iff, s1, fof_sv h]; exact Int.mul_lt_mul_of_pos_right (by obtain ⟨a, b⟩ := h; omega) tw_int
  have k2 : key (fof n).toNat < key 4890909195324358656 := by
    rw [← sv_lt_iff, s2, fof_sv h]; exact Int.mul_lt_mul_of_pos_right (by obtain ⟨a, b⟩ := h; omega) tw_int
  have o1 := (order_cases (fof n).toNat 14114281232179134464).2.1.2 ⟨by omega, by decide, k1⟩
  have o2 := (order_cases (fof n).toNat 4890909195324358656).1.2 ⟨by omega, by decide, k2⟩
  unfold fint
  rw [show FloatKind.f64.format = double from rfl, if_pos (Or.inl o1), if_pos o2]
  unfold floatToIntVal
  have ht : (FloatKind.f64.decode (fof n).toNat).toInt .zero = some n := by
    show (double.read (fof n).toNat).toInt .zero = some n
    rw [toInt_fin hf, fof_V h, fof_sg, Nat.mul_div_cancel _ tw_pos]
    by_cases h0 : n < 0
    · rw [if_pos (by simpa using h0), Option.some.injEq]; omega
    · rw [if_neg (by simpa using h0), Option.some.injEq]; omega
  rw [ht]
  have e1 : IntKind.i64.min = -9223372036854775808 := rfl
  have e2 : IntKind.i64.max = 9223372036854775807 := rfl
  simp only [e1, e2]
  rw [if_pos (by obtain ⟨a, b⟩ := h; omega)]

theorem fadd_whole {n m : Int} (hn : Small n) (hm : Small m) (h : n + m ≠ 0) : fadd (fof n) (fof m) = fof (n + m) := by
  unfold fadd
  rw [add_fin (fof_fin hn) (fof_fin hm), fof_sv hn, fof_sv hm, ← Int.add_mul, abs_tw, fof_eq (n + m)]
  simp only [zero_tw, h, if_false, neg_tw]; rfl

theorem fsub_self {a : Int} (ha : Wd a) (h : rg a.toNat < rinf) : fsub a a = 0 := by
  rw [fsub_eq ha, fneg_ok ha (by omega)]
  have hs : sv (double.word (!sg a.toNat) (rg a.toNat)) = -sv a.toNat := by
    unfold sv; rw [sg_word _ (rg_lt _), rg_word _ (rg_lt _)]; cases sg a.toNat <;> simp
  unfold fadd
  rw [Int.toNat_natCast, add_fin h (by rw [rg_word _ (rg_lt _)]; exact h), hs, Int.add_right_neg, sg_word _ (rg_lt _)]
  cases sg a.toNat <;> rfl

theorem fmul_whole {n m : Int} (hn : Small n) (hm : Small m) (h : n * m ≠ 0) : fmul (fof n) (fof m) = fof (n * m) := by
  obtain ⟨x, e, h1, _, _, _, h2⟩ := RP_read (fof_fin hn)
  obtain ⟨y, f, h3, _, _, _, h4⟩ := RP_read (fof_fin hm)
  rw [fof_V hn] at h2
  rw [fof_V hm] at h4
  unfold fmul Format.mul
  rw [h1, h3, fof_eq (n * m), ← RP_whole]
  show fr (some (double.nearest (sg (fof n).toNat ^^ sg (fof m).toNat) (x * y) (-1074 + (e : Int) + (-1074 + (f : Int))))) = _
  have hv : x * y * 2 ^ (e + f) = (n * m).natAbs * 2 ^ (ex1074 + ex1074) := by
    rw [Nat.pow_add, Nat.pow_add, Int.natAbs_mul, Nat.mul_mul_mul_comm, h2, h4, tw_eq, Nat.mul_mul_mul_comm]
  rw [nearest_eq, RP_same hv (q := 0) (by unfold ex1074; omega), fof_sg, fof_sg]
  have hs : (decide (n < 0) ^^ decide (m < 0)) = decide (n * m < 0) := by
    have hn0 : n ≠ 0 := by rintro rfl; simp at h
    have hm0 : m ≠ 0 := by rintro rfl; simp at h
    rcases Int.lt_or_gt_of_ne hn0 with a | a <;> rcases Int.lt_or_gt_of_ne hm0 with b | b
    · have := Int.mul_pos_of_neg_of_neg a b; simp [a, b]; omega
    · have := Int.mul_neg_of_neg_of_pos a b; have b' : ¬ m < 0 := by omega
      simp [a, b', this]
    · have := Int.mul_neg_of_pos_of_neg a b; have a' : ¬ n < 0 := by omega
      simp [a', b, this]
    · have := Int.mul_pos a b; have a' : ¬ n < 0 := by omega
      have b' : ¬ m < 0 := by omega
      have c' : ¬ n * m < 0 := by omega
      simp [a', b', c']
  rw [hs]; rfl

/-! ### roots -/
theorem root_spec (n : Nat) : ∀ k r, r * r ≤ n → n < (r + 2 ^ k) * (r + 2 ^ k) → Datum.rootFrom n k r * Datum.rootFrom n k r ≤ n ∧ n < (Datum.rootFrom n k r + 1) * (Datum.rootFrom n k r + 1)
  | 0, r, h1, h2 => ⟨h1, h2⟩
  | k + 1, r, h1, h2 => by
    unfold Datum.rootFrom
    simp only [Nat.shiftLeft_eq, Nat.one_mul]
    by_cases h : (r + 2 ^ k) * (r + 2 ^ k) ≤ n
    · rw [if_pos h]
      exact root_spec n k _ h (by rw [Nat.add_assoc, ← Nat.two_mul, ← Nat.pow_succ']; exact h2)
    · rw [if_neg h]
      exact root_spec n k _ h1 (by omega)

theorem root_top (n : Nat) : n < (0 + 2 ^ (n.log2 / 2 + 1)) * (0 + 2 ^ (n.log2 / 2 + 1)) := by
  rw [Nat.zero_add, ← Nat.pow_add]
  exact Nat.lt_of_lt_of_le (lt_log2 n) (Nat.pow_le_pow_right (by decide) (by omega))

theorem root_unique {n r s : Nat} (h1 : r * r ≤ n) (h2 : n < (r + 1) * (r + 1)) (h3 : s * s ≤ n) (h4 : n < (s + 1) * (s + 1)) : r = s := by
  rcases Nat.lt_trichotomy r s with h | h | h
  · have := Nat.mul_le_mul (show r + 1 ≤ s by omega) (show r + 1 ≤ s by omega); omega
  · exact h
  · have := Nat.mul_le_mul (show s + 1 ≤ r by omega) (show s + 1 ≤ r by omega); omega

theorem root_square (c : Nat) : Datum.rootFrom (c * c) ((c * c).log2 / 2 + 1) 0 = c := by
  obtain ⟨h1, h2⟩ := root_spec (c * c) ((c * c).log2 / 2 + 1) 0 (by omega) (root_top _)
  exact root_unique h1 h2 (Nat.le_refl _) (Nat.mul_lt_mul_of_lt_of_lt (by omega) (by omega))

/-- A finite word's digits: full, or at the least place. -/
theorem read_full {a : Nat} (h : rg a < rinf) : ∃ m e : Nat, double.read a = .number (sg a) m (-1074 + (e : Int)) ∧ m * 2 ^ e = V (rg a) ∧ m < 9007199254740992 ∧ (e = 0 ∨ 4503599627370496 ≤ m) ∧ e ≤ 2045 := by
  have hr : rinf = 9218868437227405312 := rfl
  rw [read_eq]
  by_cases h1 : rg a < 4503599627370496
  · exact ⟨rg a, 0, by rw [if_pos h1]; rfl, by rw [V, if_pos h1]; simp, by omega, Or.inl rfl, by omega⟩
  · exact ⟨_, _, by rw [if_neg h1, if_pos h], by rw [V, if_neg h1], by omega, Or.inr (by omega), by omega⟩

theorem fsqrt_square {c : Nat} (hc : c ≤ 67108864) : fsqrt (fof ((c * c : Nat) : Int)) = fof (c : Int) := by
  have hcc : c * c ≤ 4503599627370496 := Nat.mul_le_mul hc hc
  by_cases h0 : c = 0
  · subst h0; decide +kernel
  have hpos : 0 < c * c := Nat.mul_pos (by omega) (by omega)
  have hsm : Small ((c * c : Nat) : Int) := ⟨by omega, by omega⟩
  obtain ⟨m, e, h1, h2, h3, h4, _⟩ := read_full (fof_fin hsm)
  rw [fof_V hsm, Int.natAbs_natCast] at h2
  have hsg : sg (fof ((c * c : Nat) : Int)).toNat = false := by rw [fof_sg]; simp; omega
  rw [hsg] at h1
  have hm : m ≠ 0 := by rintro rfl; have := Nat.mul_pos hpos tw_pos; omega
  have he : e ≤ 1074 := by
    rcases h4 with h4 | h4
    · omega
    · have h5 : 4503599627370496 * 2 ^ e ≤ 4503599627370496 * tw := by
        have h7 := Nat.mul_le_mul_right (2 ^ e) h4
        have h8 := Nat.mul_le_mul_right tw hcc
        omega
      have h6 : 2 ^ e ≤ 2 ^ ex1074 := by rw [tw_eq]; exact Nat.le_of_mul_le_mul_left h5 (by decide)
      have := (Nat.pow_le_pow_iff_right (by decide : 1 < 2)).1 h6
      unfold ex1074 at this; exact this
  unfold fsqrt Format.sqrt
  rw [h1]
  simp only [Datum.root, hm, if_false, Bool.false_eq_true, show double.fractionBits = 52 from rfl, Nat.shiftLeft_eq]
  generalize hmore : 2 * (52 + 2) - m.log2 + ((-1074 + (e : Int) - ((2 * (52 + 2) - m.log2 : Nat) : Int)) % 2).toNat = more
  have hpar : ∃ t : Nat, (more : Int) + 1074 - e = 2 * t := ⟨((more + 1074 - e) / 2 : Nat), by omega⟩
  obtain ⟨t, ht⟩ := hpar
  have hsq : m * 2 ^ more = c * 2 ^ t * (c * 2 ^ t) := by
    have hp : 0 < 2 ^ e := Nat.two_pow_pos _
    apply Nat.eq_of_mul_eq_mul_right hp
    rw [Nat.mul_right_comm, h2, Nat.mul_mul_mul_comm, ← Nat.pow_add, Nat.mul_assoc (c * c), Nat.mul_assoc (c * c), ← tw_eq, ← Nat.pow_add, ← Nat.pow_add, show ex1074 + more = t + t + e from by unfold ex1074; omega]
  rw [hsq, root_square, show ((c * 2 ^ t * (c * 2 ^ t) != c * 2 ^ t * (c * 2 ^ t))) = false from by simp, fof_eq (c : Int), ← RP_whole, Int.natAbs_natCast]
  show fr (some (double.nearest false (2 * (c * 2 ^ t) + 0) ((-1074 + (e : Int) - (more : Int)) / 2 - 1))) = _
  rw [nearest_eq, RP_same (n := c) (q := 0) (j := 0) (k := t + 1) (by rw [Nat.pow_succ]; simp only [Nat.pow_zero, Nat.mul_one, Nat.add_zero]; rw [Nat.mul_comm 2, Nat.mul_assoc]) (by omega)]
  rw [show decide ((c : Int) < 0) = false from by simp]; rfl

theorem fmul_square {n : Int} (h1 : -67108864 ≤ n) (h2 : n ≤ 67108864) : fsqrt (fmul (fof n) (fof n)) = fof (max n (-n)) := by
  by_cases h0 : n = 0
  · subst h0; decide +kernel
  have hs : Small n := ⟨by omega, by omega⟩
  rw [fmul_whole hs hs (Int.mul_ne_zero h0 h0)]
  have e1 : n * n = ((n.natAbs * n.natAbs : Nat) : Int) := (Int.natAbs_mul_self).symm
  have e2 : max n (-n) = (n.natAbs : Int) := by omega
  rw [e1, e2]
  exact fsqrt_square (by omega)
#print axioms fmul_square
end Go.Proofs.Ytcobpbhmpolceaa
