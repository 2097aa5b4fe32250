import Derived.Test.YtcobpbhmpolceaaFO
/-! More of reals: negatives, products, quotients, roots; what is whole. Plain laws. -/
namespace Go.Proofs.Ytcobpbhmpolceaa
open Go.RowKit Ieee

/-- The rung nearest to 'm * 2 ^ p'. -/
def RP (m : Nat) (p : Int) : Nat :=
  if m = 0 then 0 else
  min (((max (p + (m.log2 : Int) - 52) (-1074)) + 1074).toNat * 4503599627370496 + rne (m * 2 ^ (p - max (p + (m.log2 : Int) - 52) (-1074)).toNat) (max (p + (m.log2 : Int) - 52) (-1074) - p).toNat) rinf

theorem nearest_eq (s : Bool) (m : Nat) (p : Int) : double.nearest s m p = double.word s (RP m p) := by
  unfold Format.nearest RP
  have hl : double.leastPlace = -1074 := rfl
  have hb : double.binade = 4503599627370496 := rfl
  have hf : ((double.fractionBits : Nat) : Int) = 52 := rfl
  have hi : double.infRung = rinf := rfl
  by_cases hm : m = 0
  · rw [if_pos hm, if_pos hm]
  · simp only [hm, if_false, hl, hb, hf, hi, cut_eq, Nat.shiftLeft_eq]
    rw [show max (p + (m.log2 : Int) - 52) (-1074) - -1074 = max (p + (m.log2 : Int) - 52) (-1074) + 1074 from by omega]

theorem RP_le (m : Nat) (p : Int) : RP m p ≤ rinf := by
  unfold RP; split
  · exact Nat.zero_le _
  · exact Nat.min_le_right _ _
theorem RP_lt (m : Nat) (p : Int) : RP m p < 9223372036854775808 := Nat.lt_of_le_of_lt (RP_le m p) (by decide)

theorem RP_units (m e : Nat) : RP m (-1074 + (e : Int)) = R (m * 2 ^ e) := by
  have h1 := nearest_eq false m (-1074 + (e : Int))
  rw [nearest_units] at h1
  simpa [double_word] using h1.symm

theorem RP_scale (m k : Nat) (p : Int) : RP (m * 2 ^ k) (p - (k : Int)) = RP m p := by
  unfold RP
  by_cases hm : m = 0
  · subst hm; simp
  · have h0 : m * 2 ^ k ≠ 0 := by have := Nat.two_pow_pos k; exact Nat.mul_ne_zero hm (by omega)
    simp only [hm, h0, if_false]
    rw [log2_mul_pow hm]
    have e1 : p - (k : Int) + ((m.log2 + k : Nat) : Int) - 52 = p + (m.log2 : Int) - 52 := by omega
    rw [e1]
    generalize max (p + (m.log2 : Int) - 52) (-1074) = last
    have key : rne (m * 2 ^ k * 2 ^ (p - (k : Int) - last).toNat) (last - (p - (k : Int))).toNat = rne (m * 2 ^ (p - last).toNat) (last - p).toNat := by
      by_cases h1 : (k : Int) ≤ p - last
      · rw [show (last - (p - (k : Int))).toNat = 0 from by omega, show (last - p).toNat = 0 from by omega, rne_zero, rne_zero, Nat.mul_assoc, ← Nat.pow_add, show k + (p - (k : Int) - last).toNat = (p - last).toNat from by omega]
      · rw [show (p - (k : Int) - last).toNat = 0 from by omega, Nat.pow_zero, Nat.mul_one]
        by_cases h2 : 0 ≤ p - last
        · rw [show (last - p).toNat = 0 from by omega]
          have := rne_scale (m * 2 ^ (p - last).toNat) 0 (last - (p - (k : Int))).toNat
          rw [Nat.zero_add, Nat.mul_assoc, ← Nat.pow_add, show (p - last).toNat + (last - (p - (k : Int))).toNat = k from by omega] at this
          exact this
        · rw [show (p - last).toNat = 0 from by omega, Nat.pow_zero, Nat.mul_one]
          have := rne_scale m (last - p).toNat k
          rw [show (last - p).toNat + k = (last - (p - (k : Int))).toNat from by omega] at this
          exact this
    rw [key]

/-- The same value at two places. -/
theorem RP_same {m n : Nat} {p q : Int} {j k : Nat} (h : m * 2 ^ j = n * 2 ^ k) (hp : p - (j : Int) = q - (k : Int)) : RP m p = RP n q := by
  rw [← RP_scale m j p, ← RP_scale n k q, h, hp]

/-! ### negatives -/
theorem xor_top {a : Nat} (h : a < 9223372036854775808) : a ^^^ 9223372036854775808 = 9223372036854775808 + a := by
  have h' : a < 2 ^ 63 := h
  have e : (9223372036854775808 : Nat) = 2 ^ 63 := by decide
  have hor := Nat.two_pow_add_eq_or_of_lt h' 1
  rw [Nat.mul_one] at hor
  rw [e, hor]
  apply Nat.eq_of_testBit_eq
  intro j
  rw [Nat.testBit_xor, Nat.testBit_or, Nat.testBit_two_pow]
  by_cases hj : 63 = j
  · subst hj; rw [Nat.testBit_lt_two_pow h']; simp
  · simp [hj]

theorem neg_nat {a : Nat} (h : a < 18446744073709551616) : Op.negFloat .f64 a = if sg a then a - 9223372036854775808 else a + 9223372036854775808 := by
  show a ^^^ 9223372036854775808 = _
  unfold sg
  by_cases h1 : a < 9223372036854775808
  · rw [show a / 9223372036854775808 = 0 from by omega, xor_top h1]; simp; omega
  · rw [show a / 9223372036854775808 = 1 from by omega]
    have hl : a - 9223372036854775808 < 9223372036854775808 := by omega
    have e : a = (a - 9223372036854775808) ^^^ 9223372036854775808 := by rw [xor_top hl]; omega
    have : a ^^^ 9223372036854775808 = a - 9223372036854775808 := by
      conv => lhs; rw [e]
      rw [Nat.xor_assoc, Nat.xor_self, Nat.xor_zero]
    rw [this]; simp

theorem neg_word {a : Nat} (h : a < 18446744073709551616) : Op.negFloat .f64 a = double.word (!sg a) (rg a) := by
  rw [neg_nat h, double_word]
  unfold sg rg
  by_cases h1 : a < 9223372036854775808
  · rw [show a / 9223372036854775808 = 0 from by omega]; simp; omega
  · rw [show a / 9223372036854775808 = 1 from by omega]; simp; omega

theorem fneg_nan {a : Int} (ha : Wd a) (h : rinf < rg a.toNat) : fneg a = 9221120237041090560 := by
  unfold fneg
  rw [neg_word (by have := ha.2; omega), fbits_nan (by rw [rg_word _ (rg_lt _)]; exact h)]
theorem fneg_ok {a : Int} (ha : Wd a) (h : rg a.toNat ≤ rinf) : fneg a = (double.word (!sg a.toNat) (rg a.toNat) : Nat) := by
  unfold fneg
  rw [neg_word (by have := ha.2; omega), fbits_ok (by rw [rg_word _ (rg_lt _)]; exact h)]

theorem word_lt {s : Bool} {r : Nat} (h : r < 9223372036854775808) : double.word s r < 18446744073709551616 := by rw [double_word]; split <;> omega

theorem read_word (s : Bool) {r : Nat} (h : r < 9223372036854775808) : double.read (double.word s r) = if r < 4503599627370496 then .number s r (-1074)
    else if r < rinf then .number s (4503599627370496 + r % 4503599627370496) (-1074 + ((r / 4503599627370496 - 1 : Nat) : Int))
    else if r = rinf then .infinity s else .nan s (r - rinf) := by rw [read_eq, rg_word s h, sg_word s h]

theorem read_opp (s : Bool) {r : Nat} (h : r < 9223372036854775808) : double.read (double.word (!s) r) = (double.read (double.word s r)).opposite := by
  rw [read_word _ h, read_word _ h]
  split
  · rfl
  · split
    · rfl
    · split <;> rfl

/-- What is told is right: no other NaN. -/
theorem fr_right (o : Option Nat) (h : ∀ r, o = some r → rg r ≤ rinf) : fbits (fr o).toNat = fr o := by
  cases o with
  | none => decide +kernel
  | some r => exact fbits_ok (h r rfl)

theorem fbits_right (a : Nat) : fbits (fbits a).toNat = fbits a := by
  by_cases h : rg a ≤ rinf
  · rw [fbits_ok h, Int.toNat_natCast, fbits_ok h]
  · rw [fbits_nan (r := a) (by omega)]; decide +kernel

theorem fadd_right (a b : Int) : fbits (fadd a b).toNat = fadd a b := fr_right _ fun _ => add_ok
theorem fsub_right (a b : Int) : fbits (fsub a b).toNat = fsub a b := fr_right _ fun _ => sub_ok
theorem fmul_right (a b : Int) : fbits (fmul a b).toNat = fmul a b := fr_right _ fun _ => mul_ok
theorem fdiv_right (a b : Int) : fbits (fdiv a b).toNat = fdiv a b := fr_right _ fun _ => div_ok
theorem fsqrt_right (a : Int) : fbits (fsqrt a).toNat = fsqrt a := fr_right _ fun _ => sqrt_ok
theorem fneg_right (a : Int) : fbits (fneg a).toNat = fneg a := fbits_right _

/-! ### what turns round -/
theorem sum_comm (x y : Datum) : x.sum y = y.sum x := by
  cases x <;> cases y <;> simp only [Datum.sum]
  · rename_i s m i t n j
    rw [show min i j = min j i from by omega, Int.add_comm, Bool.and_comm]
  · rename_i s t
    by_cases h : s = t
    · subst h; rfl
    · rw [if_neg h, if_neg (fun e => h e.symm)]

theorem product_comm (x y : Datum) : x.product y = y.product x := by
  cases x <;> cases y <;> simp only [Datum.product] <;> simp only [Bool.xor_comm, Nat.mul_comm, Int.add_comm]

theorem fadd_comm (a b : Int) : fadd a b = fadd b a := by unfold fadd Format.add; rw [sum_comm]
theorem fmul_comm (a b : Int) : fmul a b = fmul b a := by unfold fmul Format.mul; rw [product_comm]

theorem fsub_eq {a b : Int} (hb : Wd b) : fsub a b = fadd a (fneg b) := by
  have hb' : b.toNat < 18446744073709551616 := by have := hb.2; omega
  rcases Nat.lt_or_ge rinf (rg b.toNat) with h | h
  · rw [fneg_nan hb h]
    unfold fsub fadd Format.sub
    rw [sum_none_r fr_nan, read_nan h]
    cases double.read a.toNat <;> rfl
  · rw [fneg_ok hb h]
    unfold fsub fadd Format.sub Format.add
    rw [Int.toNat_natCast, read_opp _ (rg_lt _), word_self hb']

theorem fneg_neg {a : Int} (ha : Wd a) : fneg (fneg a) = fbits a.toNat := by
  have ha' : a.toNat < 18446744073709551616 := by have := ha.2; omega
  rcases Nat.lt_or_ge rinf (rg a.toNat) with h | h
  · rw [fneg_nan ha h, fbits_nan h]; decide +kernel
  · have hw : Wd ((double.word (!sg a.toNat) (rg a.toNat) : Nat) : Int) := ⟨by omega, by have := @word_lt (!sg a.toNat) _ (rg_lt a.toNat); omega⟩
    rw [fneg_ok ha h, fneg_ok hw (by rw [Int.toNat_natCast, rg_word _ (rg_lt _)]; exact h), Int.toNat_natCast, sg_word _ (rg_lt _), rg_word _ (rg_lt _), Bool.not_not, word_self ha', fbits_ok h]

theorem write_opp (d : Datum) : d.isNaN = false → double.write d.opposite = double.word (!sg (double.write d)) (rg (double.write d)) := by
  cases d with
  | nan => intro h; cases h
  | infinity s => intro _; show double.word (!s) rinf = double.word (!sg (double.word s rinf)) (rg (double.word s rinf)); rw [sg_word s (by decide), rg_word s (by decide)]
  | number s m p =>
    intro _
    show double.nearest (!s) m p = double.word (!sg (double.nearest s m p)) (rg (double.nearest s m p))
    rw [nearest_eq, nearest_eq, sg_word s (RP_lt _ _), rg_word s (RP_lt _ _)]

theorem fneg_fr {o : Option Datum} (h : ∀ d, o = some d → d.isNaN = false) : fneg (fr (o.map double.write)) = fr ((o.map Datum.opposite).map double.write) := by
  cases o with
  | none => decide +kernel
  | some d =>
    have hd := h d rfl
    have hw := double.write_lt d
    have hw' : Wd ((double.write d : Nat) : Int) := ⟨by omega, by have : double.write d < 2 ^ 64 := hw; omega⟩
    show fneg (double.write d : Nat) = (double.write d.opposite : Nat)
    rw [fneg_ok hw' (by rw [Int.toNat_natCast]; exact write_ok d hd), Int.toNat_natCast, write_opp d hd]

theorem product_opp (x y : Datum) : x.opposite.product y = (x.product y).map Datum.opposite := by
  cases x <;> cases y <;> simp only [Datum.opposite, Datum.product, Option.map_none, Option.map_some, Bool.not_xor, Bool.xor_not] <;> (try split) <;> simp only [Option.map_none, Option.map_some, Datum.opposite]
theorem quotient_opp (n : Nat) (x y : Datum) : x.quotient n y.opposite = (x.quotient n y).map Datum.opposite := by
  cases x <;> cases y <;> simp only [Datum.opposite, Datum.quotient, Option.map_none, Option.map_some, Bool.xor_not] <;> (try split) <;> (try split) <;> simp only [Option.map_none, Option.map_some, Datum.opposite]

theorem fmul_neg {a b : Int} (ha : Wd a) : fmul (fneg a) b = fneg (fmul a b) := by
  have ha' : a.toNat < 18446744073709551616 := by have := ha.2; omega
  unfold fmul Format.mul
  rw [fneg_fr fun _ => product_nan]
  rcases Nat.lt_or_ge rinf (rg a.toNat) with h | h
  · rw [fneg_nan ha h, read_nan h, read_nan fr_nan]; rfl
  · rw [fneg_ok ha h, Int.toNat_natCast, read_opp _ (rg_lt _), word_self ha', product_opp]

theorem fdiv_neg {a b : Int} (hb : Wd b) : fdiv a (fneg b) = fneg (fdiv a b) := by
  have hb' : b.toNat < 18446744073709551616 := by have := hb.2; omega
  unfold fdiv Format.div
  rw [fneg_fr fun _ => quotient_nan]
  rcases Nat.lt_or_ge rinf (rg b.toNat) with h | h
  · rw [fneg_nan hb h, read_nan h, read_nan fr_nan]; cases double.read a.toNat <;> rfl
  · rw [fneg_ok hb h, Int.toNat_natCast, read_opp _ (rg_lt _), word_self hb', quotient_opp]

/-! ### what changes nothing -/
theorem sv_zero_iff (a : Nat) : sv a = 0 ↔ rg a = 0 := by
  have h0 := V_zero
  have h1 := @V_inj (rg a) 0
  unfold sv
  constructor
  · intro h; apply h1; split at h <;> omega
  · intro h; rw [h, V_zero]; simp
theorem sv_neg_iff {a : Nat} (h : rg a ≠ 0) : sv a < 0 ↔ sg a = true := by
  have h0 := V_zero
  have h1 : V (rg a) ≠ 0 := fun e => h (V_inj (by rw [e, h0]))
  unfold sv
  cases sg a
  · simp
  · simp; omega
theorem sv_abs (a : Nat) : (sv a).natAbs = V (rg a) := by unfold sv; split <;> omega

/-- More 0, of whatever sign. -/
theorem add_nought {a z : Nat} (ha : a < 18446744073709551616) (hr : rg a < rinf) (hz : rg z = 0) :
    double.add a z = some (if rg a = 0 then double.word (sg a && sg z) 0 else a) := by
  have h1 : sv z = 0 := (sv_zero_iff z).2 hz
  rw [add_fin hr (by rw [hz]; decide), h1, Int.add_zero, sv_abs, R_V (by omega)]
  by_cases h : rg a = 0
  · rw [if_pos ((sv_zero_iff a).2 h), if_pos h, h]
  · rw [if_neg (fun e => h ((sv_zero_iff a).1 e)), if_neg h]
    have e : decide (sv a < 0) = sg a := by
      have := sv_neg_iff h
      cases hs : sg a
      · rw [hs] at this; simp at this; simp [this]
      · rw [hs] at this; simp at this; simp [this]
    rw [e, word_self ha]

theorem nat_of_Wd {a : Int} (ha : Wd a) : ((a.toNat : Nat) : Int) = a := Int.toNat_of_nonneg ha.1

theorem fadd_zero {a : Int} (ha : Wd a) : fadd a 0 = if a = 9223372036854775808 then 0 else fbits a.toNat := by
  have ha' : a.toNat < 18446744073709551616 := by have := ha.2; omega
  have hw := word_self ha'
  have hn := nat_of_Wd ha
  rcases Nat.lt_or_ge rinf (rg a.toNat) with h | h
  · rw [if_neg, fbits_nan h]
    · unfold fadd; rw [sum_none_l h]; rfl
    · rintro rfl; exact absurd h (by decide)
  · rcases Nat.lt_or_eq_of_le h with h | h
    · unfold fadd
      rw [show (0 : Int).toNat = 0 from rfl, add_nought ha' h (by decide), show sg 0 = false from by decide, Bool.and_false]
      by_cases h0 : rg a.toNat = 0
      · rw [if_pos h0]
        split
        · rfl
        · rw [fbits_ok (by omega)]
          rw [h0, double_word] at hw
          cases hs : sg a.toNat
          · rw [hs] at hw; simp at hw; rw [← hw]; rfl
          · rw [hs] at hw; simp at hw; omega
      · rw [if_neg h0, if_neg, fbits_ok (by omega)]
        · rfl
        · rintro rfl; exact h0 (by decide)
    · rw [if_neg]
      · unfold fadd; rw [sum_inf_l h (by decide), fbits_ok (by omega)]
        rw [h] at hw; rw [hw]; rfl
      · rintro rfl; exact absurd h (by decide)

theorem fadd_less {a : Int} (ha : Wd a) : fadd a 9223372036854775808 = fbits a.toNat := by
  have ha' : a.toNat < 18446744073709551616 := by have := ha.2; omega
  have hw := word_self ha'
  rcases Nat.lt_or_ge rinf (rg a.toNat) with h | h
  · rw [fbits_nan h]
    unfold fadd; rw [sum_none_l h]; rfl
  · rw [fbits_ok h]
    rcases Nat.lt_or_eq_of_le h with h | h
    · unfold fadd
      rw [show (9223372036854775808 : Int).toNat = 9223372036854775808 from rfl, add_nought ha' h (by decide), show sg 9223372036854775808 = true from by decide, Bool.and_true]
      by_cases h0 : rg a.toNat = 0
      · rw [if_pos h0]; rw [h0] at hw; rw [hw]; rfl
      · rw [if_neg h0]; rfl
    · unfold fadd; rw [sum_inf_l h (by decide)]
      rw [h] at hw; rw [hw]; rfl

theorem read_one : double.read 4607182418800017408 = .number false 4503599627370496 (-52) := by decide +kernel

/-- A finite word's number at its place is that word again. -/
theorem RP_read {a : Nat} (h : rg a < rinf) : ∃ m e : Nat, double.read a = .number (sg a) m (-1074 + (e : Int)) ∧ RP m (-1074 + (e : Int)) = rg a ∧ (m = 0 ↔ rg a = 0) ∧ m < 9007199254740992 ∧ m * 2 ^ e = V (rg a) := by
  have hb : ∃ m e : Nat, double.read a = .number (sg a) m (-1074 + (e : Int)) ∧ m * 2 ^ e = V (rg a) ∧ m < 9007199254740992 := by
    rw [read_eq]
    by_cases h1 : rg a < 4503599627370496
    · exact ⟨rg a, 0, by rw [if_pos h1]; rfl, by rw [V, if_pos h1]; simp, by omega⟩
    · exact ⟨_, _, by rw [if_neg h1, if_pos h], by rw [V, if_neg h1], by omega⟩
  obtain ⟨m, e, h1, h2, h3⟩ := hb
  refine ⟨m, e, h1, by rw [RP_units, h2, R_V (by omega)], ?_, h3, h2⟩
  have h0 := V_zero
  constructor
  · rintro rfl; rw [Nat.zero_mul] at h2; exact (V_inj (h2.symm.trans h0.symm))
  · intro e0
    rw [e0, h0] at h2
    rcases Nat.mul_eq_zero.1 h2 with h' | h'
    · exact h'
    · have := Nat.two_pow_pos e; omega

theorem fmul_one {a : Int} (ha : Wd a) : fmul a 4607182418800017408 = fbits a.toNat := by
  have ha' : a.toNat < 18446744073709551616 := by have := ha.2; omega
  have hw := word_self ha'
  unfold fmul Format.mul
  rw [show (4607182418800017408 : Int).toNat = 4607182418800017408 from rfl, read_one]
  rcases Nat.lt_or_ge rinf (rg a.toNat) with h | h
  · rw [fbits_nan h, read_nan h]; rfl
  · rw [fbits_ok h]
    rcases Nat.lt_or_eq_of_le h with h | h
    · obtain ⟨m, e, h1, h2, _⟩ := RP_read h
      rw [h1]
      show fr (some (double.nearest (sg a.toNat ^^ false) (m * 4503599627370496) (-1074 + (e : Int) + -52))) = _
      rw [nearest_eq, Bool.xor_false, RP_same (n := m) (q := -1074 + (e : Int)) (j := 0) (k := 52) (by simp) (by omega), h2, hw]; rfl
    · rw [read_inf h]
      show fr (some (double.word (sg a.toNat ^^ false) rinf)) = _
      rw [h] at hw; rw [Bool.xor_false, hw]; rfl

theorem fdiv_one {a : Int} (ha : Wd a) : fdiv a 4607182418800017408 = fbits a.toNat := by
  have ha' : a.toNat < 18446744073709551616 := by have := ha.2; omega
  have hw := word_self ha'
  unfold fdiv Format.div
  rw [show (4607182418800017408 : Int).toNat = 4607182418800017408 from rfl, read_one]
  rcases Nat.lt_or_ge rinf (rg a.toNat) with h | h
  · rw [fbits_nan h, read_nan h]; rfl
  · rw [fbits_ok h]
    rcases Nat.lt_or_eq_of_le h with h | h
    · obtain ⟨m, e, h1, h2, _, h3, _⟩ := RP_read h
      rw [h1]
      have hm : m.log2 ≤ 53 := by
        by_cases h0 : m = 0
        · subst h0; simp
        · have := (Nat.log2_lt h0).2 (show m < 2 ^ 53 by omega); omega
      have hl : (4503599627370496 : Nat).log2 = 52 := by decide +kernel
      simp only [Datum.quotient, show double.fractionBits = 52 from rfl, hl, Nat.shiftLeft_eq]
      rw [if_neg (by decide), Bool.xor_false]
      have e1 : 52 + 2 + 52 - m.log2 = (54 - m.log2) + 52 := by omega
      rw [e1, Nat.pow_add, ← Nat.mul_assoc, show (2 : Nat) ^ 52 = 4503599627370496 from by decide, Nat.mul_div_cancel _ (by decide), Nat.mul_mod_left]
      show fr (some (double.nearest (sg a.toNat) (2 * (m * 2 ^ (54 - m.log2)) + 0) _)) = _
      rw [nearest_eq, RP_same (n := m) (q := -1074 + (e : Int)) (j := 0) (k := 54 - m.log2 + 1) (by rw [Nat.pow_succ]; simp only [Nat.pow_zero, Nat.mul_one, Nat.add_zero]; rw [Nat.mul_comm 2, Nat.mul_assoc]) (by omega), h2, hw]; rfl
    · rw [read_inf h]
      show fr (some (double.word (sg a.toNat ^^ false) rinf)) = _
      rw [h] at hw; rw [Bool.xor_false, hw]; rfl

/-! ### roots -/
theorem fsqrt_cases {a : Int} (_ha : Wd a) : (fsqrt a = 9221120237041090560 ↔ ¬ rg a.toNat ≤ rinf ∨ (sg a.toNat = true ∧ rg a.toNat ≠ 0)) ∧ fless (fsqrt a) 0 = false := by
  have hnan : fless 9221120237041090560 0 = false := by decide +kernel
  have hk0 : key (0 : Int).toNat = 0 := by decide
  have big : ∀ r : Nat, rg r ≤ rinf → ((r : Nat) : Int) ≠ 9221120237041090560 := by
    intro r hr e
    have : r = 9221120237041090560 := by omega
    subst this
    exact absurd hr (by decide)
  rcases Nat.lt_or_ge rinf (rg a.toNat) with h | h
  · have e : fsqrt a = 9221120237041090560 := by unfold fsqrt Format.sqrt; rw [read_nan h]; rfl
    rw [e]; exact ⟨⟨fun _ => Or.inl (by omega), fun _ => rfl⟩, hnan⟩
  · rcases Nat.lt_or_eq_of_le h with h' | h'
    · obtain ⟨m, e, h1, h2, h3, _⟩ := RP_read h'
      by_cases hm : m = 0
      · have e : fsqrt a = (double.word (sg a.toNat) 0 : Nat) := by
          unfold fsqrt Format.sqrt; rw [h1]; simp only [Datum.root, hm, if_true, Option.map_some]
          show ((double.nearest (sg a.toNat) 0 _ : Nat) : Int) = _
          rw [nearest_eq]; rfl
        rw [e]
        refine ⟨⟨fun e' => absurd e' (big _ (by rw [rg_word _ (by decide)]; exact Nat.zero_le _)), ?_⟩, ?_⟩
        · rintro (h5 | ⟨_, h5⟩)
          · exact absurd h h5
          · exact absurd (h3.1 hm) h5
        · rw [Bool.eq_false_iff, ne_eq, fless_iff, Int.toNat_natCast, key_word _ (by decide), hk0]
          rintro ⟨_, _, h5⟩
          split at h5 <;> omega
      · cases hs : sg a.toNat
        · have e : ∃ x p, fsqrt a = (double.word false (RP x p) : Nat) := by
            unfold fsqrt Format.sqrt; rw [h1, hs]
            simp only [Datum.root, hm, if_false, Option.map_some, Bool.false_eq_true]
            exact ⟨_, _, by show ((double.nearest false _ _ : Nat) : Int) = _; rw [nearest_eq]⟩
          obtain ⟨x, p, e⟩ := e
          rw [e]
          refine ⟨⟨fun e' => absurd e' (big _ (by rw [rg_word _ (RP_lt _ _)]; exact RP_le _ _)), ?_⟩, ?_⟩
          · rintro (h5 | ⟨h5, _⟩)
            · exact absurd h h5
            · cases h5
          · rw [Bool.eq_false_iff, ne_eq, fless_iff, Int.toNat_natCast, key_word _ (RP_lt _ _), hk0]
            rintro ⟨_, _, h5⟩
            simp at h5; omega
        · have e : fsqrt a = 9221120237041090560 := by
            unfold fsqrt Format.sqrt; rw [h1, hs]
            simp only [Datum.root, hm, if_false, if_true, Option.map_none]; rfl
          rw [e]
          exact ⟨⟨fun _ => Or.inr ⟨rfl, fun h5 => hm (h3.2 h5)⟩, fun _ => rfl⟩, hnan⟩
    · cases hs : sg a.toNat
      · have e : fsqrt a = (double.word false rinf : Nat) := by
          unfold fsqrt Format.sqrt; rw [read_inf h', hs]; rfl
        rw [e]
        refine ⟨⟨fun e' => absurd e' (big _ (by decide)), ?_⟩, by decide +kernel⟩
        rintro (h5 | ⟨h5, _⟩)
        · exact absurd h h5
        · cases h5
      · have e : fsqrt a = 9221120237041090560 := by
          unfold fsqrt Format.sqrt; rw [read_inf h', hs]; rfl
        rw [e]
        exact ⟨⟨fun _ => Or.inr ⟨rfl, by rw [h']; decide⟩, fun _ => rfl⟩, hnan⟩

theorem fsqrt_sign {a : Int} (ha : Wd a) : fless a 0 = ((fsqrt a == 9221120237041090560) && !(fbits a.toNat == 9221120237041090560)) := by
  have h1 := (fsqrt_cases ha).1
  have h2 := none_iff ha
  have h3 := fless_iff a 0
  have hk0 : key (0 : Int).toNat = 0 := by decide
  have hr0 : rg (0 : Int).toNat = 0 := by decide
  rw [hk0, hr0] at h3
  have hk : key a.toNat = if sg a.toNat then -(rg a.toNat : Int) else rg a.toNat := rfl
  rw [Bool.eq_iff_iff, h3, Bool.and_eq_true, beq_iff_eq, h1, Bool.not_eq_true', beq_eq_false_iff_ne, hk]
  simp only [ne_eq, h2]
  cases sg a.toNat <;> simp <;> omega
#print axioms fsqrt_sign
end Go.Proofs.Ytcobpbhmpolceaa
