import Derived.Test.YtcobpbhmpolceaaGV
import Derived.Test.YtcobpbhmpolceaaGW
/-! The reference's Add is the program's: its walk. -/
namespace Go.Proofs.Ytcobpbhmpolceaa.Pure
open Go.RowKit Go.Proofs.Ytcobpbhmpolceaa.Ext Go.Proofs.Ytcobpbhmpolceaa.PE Go.Proofs.YtcobpbhmpolceaaW.PrintWords Go.Proofs.YtcobpbhmpolceaaW.PrintLast Go.Proofs.YtcobpbhmpolceaaW.PrintMore Ieee
set_option linter.unusedVariables false
set_option linter.unusedSimpArgs false

/-- What two numbers' sum is written as. -/
def sumOf (p q : Bool) (m n : Nat) (j : Int) (d : Nat) : Int := fr (((Datum.number p m (j + d)).sum (.number q n j)).map double.write)

theorem R_near_same (p : Bool) (m n : Nat) (j : Int) (d : Nat) (h0 : m ≠ 0 ∨ n ≠ 0) : sumOf p p m n j d = ((rnd p (m * 2 ^ d + n) j false : Nat) : Int) := by
  unfold sumOf; rw [rnd_exact, fr_word (add_same p m n j d h0)]
theorem R_near_zero (p : Bool) (m n : Nat) (j : Int) (d : Nat) (h : m * 2 ^ d = n) : sumOf p (!p) m n j d = 0 := by
  unfold sumOf; rw [fr_word (add_diff p m n j d), if_pos h]; rfl
theorem R_near_gt (p : Bool) (m n : Nat) (j : Int) (d : Nat) (h : n < m * 2 ^ d) : sumOf p (!p) m n j d = ((rnd p (m * 2 ^ d - n) j false : Nat) : Int) := by
  unfold sumOf; rw [rnd_exact, fr_word (add_diff p m n j d), if_neg (by omega), if_pos h]
theorem R_near_lt (p : Bool) (m n : Nat) (j : Int) (d : Nat) (h : m * 2 ^ d < n) : sumOf p (!p) m n j d = ((rnd (!p) (n - m * 2 ^ d) j false : Nat) : Int) := by
  unfold sumOf; rw [rnd_exact, fr_word (add_diff p m n j d), if_neg (by omega), if_neg (by omega)]
theorem R_far_same (p : Bool) (m n : Nat) (j : Int) (d : Nat) (hd : 64 < d) (hm : m ≠ 0) : sumOf p p m n j d = ((rnd p (m * 2 ^ 64 + n / 2 ^ (d - 64)) (j + d - 64) (n % 2 ^ (d - 64) != 0) : Nat) : Int) := by
  have hca := cut_add m n (d - 64) d (by omega)
  rw [show d - (d - 64) = 64 from by omega] at hca
  have hlow : 9007199254740992 ≤ (m * 2 ^ d + n) / 2 ^ (d - 64) := by
    rw [hca.1]
    exact Nat.le_trans (by omega) (Nat.le_add_right (m * 2 ^ 64) _)
  have := rnd_cut p (m * 2 ^ d + n) (d - 64) j hlow
  rw [show j + ((d - 64 : Nat) : Int) = j + (d : Int) - 64 from by omega, hca.1, hca.2] at this
  unfold sumOf
  rw [this, fr_word (add_same p m n j d (Or.inl hm))]
theorem R_far_diff (p : Bool) (m n : Nat) (j : Int) (d : Nat) (hd : 64 < d) (hm : m ≠ 0) (hn : n < 9007199254740992) : sumOf p (!p) m n j d = ((rnd p (m * 2 ^ 64 - n / 2 ^ (d - 64) - stk (n % 2 ^ (d - 64) != 0)) (j + d - 64) (n % 2 ^ (d - 64) != 0) : Nat) : Int) := by
  have hK : 0 < 2 ^ (d - 64) := Nat.two_pow_pos _
  have hbigd : m * 2 ^ d = m * 2 ^ (d - 64) * 18446744073709551616 := by
    rw [Nat.mul_assoc, show (18446744073709551616 : Nat) = 2 ^ 64 from by decide, ← Nat.pow_add, Nat.sub_add_cancel (by omega)]
  have hge : m * 1 ≤ m * 2 ^ (d - 64) := Nat.mul_le_mul_left _ hK
  have hle : n < m * 2 ^ d := by rw [hbigd]; omega
  have hn64 : n / 2 ^ (d - 64) ≤ n := Nat.div_le_self _ _
  have hcs := cut_sub m n (d - 64) d (by omega) (Nat.le_of_lt hle)
  rw [show d - (d - 64) = 64 from by omega] at hcs
  have hlow : 9007199254740992 ≤ (m * 2 ^ d - n) / 2 ^ (d - 64) := by
    rw [hcs.1]
    have := stk_le (n % 2 ^ (d - 64) != 0)
    generalize stk (n % 2 ^ (d - 64) != 0) = z at *
    generalize n / 2 ^ (d - 64) = q at hn64 ⊢
    omega
  have := rnd_cut p (m * 2 ^ d - n) (d - 64) j hlow
  rw [show j + ((d - 64 : Nat) : Int) = j + (d : Int) - 64 from by omega, hcs.1, hcs.2] at this
  unfold sumOf
  rw [this, fr_word (add_diff p m n j d), if_neg (by omega), if_pos hle]

theorem X_lt {m D : Nat} (hm : m < 9007199254740992) (hD : D ≤ 64) : m * 2 ^ D < 166153499473114484112975882535043072 := by
  have h1 := (Nat.mul_lt_mul_right (Nat.two_pow_pos D)).2 hm
  have h2 : 9007199254740992 * 2 ^ D ≤ 9007199254740992 * 2 ^ 64 := Nat.mul_le_mul_left _ (Nat.pow_le_pow_right (by decide) hD)
  exact Nat.lt_of_lt_of_le h1 h2
theorem left_of {m : Nat} {x : Int} {D : Nat} (hm : m < 9007199254740992) (hD : D ≤ 64) (hx : x = (D : Int)) : moidoreref03_left.f 0 (m : Int) x = some (((m * 2 ^ D / 18446744073709551616 : Nat) : Int), ((m * 2 ^ D % 18446744073709551616 : Nat) : Int)) := by
  rw [hx, left_nat m D (by omega) (by omega) (by have := X_lt hm hD; omega)]
theorem right_of {n : Nat} {x : Int} {K : Nat} {b : Bool} (hn : n < 9007199254740992) (hK : K ≤ 3000) (hx : x = (K : Int)) (hb : (n % 2 ^ K != 0) = b) : moidoreref03_right.f 0 (n : Int) x = some (((n / 2 ^ K / 18446744073709551616 : Nat) : Int), ((n / 2 ^ K : Nat) : Int), b) := by
  have := right_nat 0 n K (by decide) (by omega) (by omega)
  rw [Nat.zero_mul, Nat.zero_add] at this
  have hle : n / 2 ^ K ≤ n := Nat.div_le_self _ _
  rw [hx, show (0 : Int) = ((0 : Nat) : Int) from rfl, this, ← hb]
  generalize n / 2 ^ K = z at *
  rw [Nat.mod_eq_of_lt (by omega)]

theorem Add_any {a b : Nat} (ha : a < 18446744073709551616) (hb : b < 18446744073709551616) (w : World) :
    Calls Try.prog 26 #[.int .u64 (a : Int), .int .u64 (b : Int)] w fun e w' => e = .returned (.int .u64 (fadd (a : Int) (b : Int))) ∧ Qt w w' := by
  have hr : rinf = 9218868437227405312 := rfl
  have la := rg_lt a
  have lb := rg_lt b
  have fin : ∀ {r : Int}, fadd (a : Int) (b : Int) = r → (Calls Try.prog 26 #[.int .u64 (a : Int), .int .u64 (b : Int)] w fun e w' => e = .returned (.int .u64 r) ∧ Qt w w') → (Calls Try.prog 26 #[.int .u64 (a : Int), .int .u64 (b : Int)] w fun e w' => e = .returned (.int .u64 (fadd (a : Int) (b : Int))) ∧ Qt w w') := fun h c => by rw [h]; exact c
  have hA : ∀ c : Bool, decide (rinf < rg a) = c → decide (Go.bits .andNot .u64 (a : Int) 9223372036854775808 > 9218868437227405312) = c := fun c h => by
    rw [top_off ha, ← h, decide_eq_decide]; omega
  have hB : ∀ c : Bool, decide (rinf < rg b) = c → decide (Go.bits .andNot .u64 (b : Int) 9223372036854775808 > 9218868437227405312) = c := fun c h => by
    rw [top_off hb, ← h, decide_eq_decide]; omega
  have iA : ∀ c : Bool, decide (rg a = rinf) = c → (Go.bits .andNot .u64 (a : Int) 9223372036854775808 == 9218868437227405312) = c := fun c h => by
    rw [top_off ha, ← h, Bool.eq_iff_iff, beq_iff_eq, decide_eq_true_eq]; omega
  have iB : ∀ c : Bool, decide (rg b = rinf) = c → (Go.bits .andNot .u64 (b : Int) 9223372036854775808 == 9218868437227405312) = c := fun c h => by
    rw [top_off hb, ← h, Bool.eq_iff_iff, beq_iff_eq, decide_eq_true_eq]; omega
  have zA : ∀ c : Bool, decide (rg a = 0) = c → (Go.bits .andNot .u64 (a : Int) 9223372036854775808 == 0) = c := fun c h => by
    rw [top_off ha, ← h, Bool.eq_iff_iff, beq_iff_eq, decide_eq_true_eq]; omega
  have zB : ∀ c : Bool, decide (rg b = 0) = c → (Go.bits .andNot .u64 (b : Int) 9223372036854775808 == 0) = c := fun c h => by
    rw [top_off hb, ← h, Bool.eq_iff_iff, beq_iff_eq, decide_eq_true_eq]; omega
  have nat_eq : fadd (a : Int) (b : Int) = fr (double.add a b) := by unfold fadd; rw [Int.toNat_natCast, Int.toNat_natCast]
  by_cases na : rinf < rg a
  · exact fin (by rw [nat_eq, sum_none_l na]; rfl) (add_nan_a _ _ w (hA true (by simpa using na)))
  have hA' := hA false (by simpa using na)
  by_cases nb : rinf < rg b
  · exact fin (by rw [nat_eq, sum_none_r nb]; rfl) (add_nan_b _ _ w hA' (hB true (by simpa using nb)))
  have hB' := hB false (by simpa using nb)
  have wa := word_self ha
  have wb := word_self hb
  have hne : (((a : Int) != (b : Int)) : Bool) = (a != b) := by rw [Bool.eq_iff_iff, bne_iff_ne, bne_iff_ne]; omega
  by_cases ia : rg a = rinf
  · by_cases ib : rg b = rinf
    · by_cases c : sg a = sg b
      · have : a = b := by rw [← wa, ← wb, ia, ib, c]
        exact fin (by rw [nat_eq, sum_inf ia ib, if_pos c, ← ia, wa]; rfl) (add_inf_aa _ _ w hA' hB' (iA true (by simpa using ia)) (iB true (by simpa using ib)) (by rw [hne]; simpa using this))
      · have : a ≠ b := fun h => c (by rw [h])
        exact fin (by rw [nat_eq, sum_inf ia ib, if_neg c]; rfl) (add_inf2 _ _ w hA' hB' (iA true (by simpa using ia)) (iB true (by simpa using ib)) (by rw [hne]; simpa using this))
    · exact fin (by rw [nat_eq, sum_inf_l ia (by omega), ← ia, wa]; rfl) (add_inf_a _ _ w hA' hB' (iA true (by simpa using ia)) (iB false (by simpa using ib)))
  have iA' := iA false (by simpa using ia)
  by_cases ib : rg b = rinf
  · exact fin (by rw [nat_eq, sum_inf_r (by omega) ib, ← ib, wb]; rfl) (add_inf_b _ _ w hA' hB' iA' (iB true (by simpa using ib)))
  have iB' := iB false (by simpa using ib)
  obtain ⟨m, e, o1, h2, hm, h4, he, hf1⟩ := open_nat ha (by omega)
  obtain ⟨n, f, o2, h5, hn, h7, hf', hf2⟩ := open_nat hb (by omega)
  by_cases zz : rg a = 0 ∧ rg b = 0
  · refine fin ?_ (add_zero _ _ w hA' hB' iA' iB' (zA true (by simpa using zz.1)) (zB true (by simpa using zz.2)))
    rw [u64_and_nat _ _ ha hb]
    rw [zz.1, double_word] at wa
    rw [zz.2, double_word] at wb
    have : double.add a b = some (a &&& b) := by
      unfold Format.add
      rw [h2, h5, h4.2 zz.1, h7.2 zz.2]
      simp only [Datum.sum, Option.map_some, write_number, signed_eq, Nat.zero_mul]
      cases c1 : sg a <;> cases c2 : sg b <;> rw [c1] at wa <;> rw [c2] at wb <;> simp only [Bool.false_eq_true, if_false, if_true] at wa wb <;> subst wa <;> subst wb <;> simp [RP, double_word]
    rw [nat_eq, fr_word this]
  have ZZ : (Go.bits .andNot .u64 (a : Int) 9223372036854775808 == 0) = false ∨ ((Go.bits .andNot .u64 (a : Int) 9223372036854775808 == 0) = true ∧ (Go.bits .andNot .u64 (b : Int) 9223372036854775808 == 0) = false) := by
    by_cases c : rg a = 0
    · exact Or.inr ⟨zA true (by simpa using c), zB false (by simp; omega)⟩
    · exact Or.inl (zA false (by simpa using c))
  have h0 : m ≠ 0 ∨ n ≠ 0 := by
    rcases Nat.eq_zero_or_pos m with c | c
    · exact Or.inr (fun h => zz ⟨h4.1 c, h7.1 h⟩)
    · exact Or.inl (by omega)
  have hsum : fadd (a : Int) (b : Int) = fr (((Datum.number (sg a) m (-1074 + (e : Int))).sum (.number (sg b) n (-1074 + (f : Int)))).map double.write) := by
    rw [nat_eq]; unfold Format.add; rw [h2, h5]
  have cond : ∀ {X n : Nat}, n ≤ X → n < 9007199254740992 → ((((X / 18446744073709551616 : Nat) : Int) == 0) = false ∨ ((((X / 18446744073709551616 : Nat) : Int) == 0) = true ∧ (n : Int) ≤ ((X % 18446744073709551616 : Nat) : Int))) := by
    intro X n h hn
    by_cases c : X / 18446744073709551616 = 0
    · exact Or.inr ⟨by rw [beq_iff_eq]; omega, by omega⟩
    · exact Or.inl (by rw [beq_eq_false_iff_ne]; omega)
  have b0 : ∀ {x : Nat}, x = 0 → (((x : Nat) : Int) == 0) = true := fun h => by rw [h]; rfl
  have b1 : ∀ {x : Nat}, x ≠ 0 → (((x : Nat) : Int) == 0) = false := fun h => by rw [beq_eq_false_iff_ne]; omega
  by_cases sw : e < f
  · -- turned
    have hsum' : fadd (a : Int) (b : Int) = sumOf (sg b) (sg a) n m (-1074 + (e : Int)) (f - e) := by
      unfold sumOf; rw [hsum, sum_comm, show -1074 + (e : Int) + ((f - e : Nat) : Int) = -1074 + (f : Int) from by omega]
    by_cases far : 64 < f - e
    · have n0 : n ≠ 0 := by omega
      have hq : m / 2 ^ (f - e - 64) ≤ m := Nat.div_le_self _ _
      have hX : n * 2 ^ 64 = n * 18446744073709551616 := rfl
      by_cases same : sg b = sg a
      · rw [← same] at o1 hsum'
        refine fin ?_ (add_sf_same _ _ w (sg b) m n (-1074 + (e : Int)) (-1074 + (f : Int)) _ _ _ _ _ 4 _ _ (m % 2 ^ (f - e - 64) != 0) hA' hB' iA' iB' ZZ o1 o2 (by omega) (by omega) (by omega) (by omega) (by omega) (by omega) (right_of (K := f - e - 64) hm (by omega) (by omega) rfl) (left_of (D := 64) hn (by omega) rfl) (add64_nat _ _) (V_same 0 (n * 2 ^ 64) (m / 2 ^ (f - e - 64)) (sg b) _ _ (X_lt hn (by omega)) (by omega) (by omega) (by omega) (fun _ => Nat.le_trans (by omega) (Nat.le_add_right (n * 2 ^ 64) _))))
        rw [hsum', R_far_same (sg b) n m _ _ far n0, show -1074 + (e : Int) + ((f - e : Nat) : Int) = -1074 + (f : Int) from by omega]
      · have ht : sg a = !sg b := by revert same; cases sg a <;> cases sg b <;> simp
        rw [ht] at hsum'
        have hneq : (sg b == sg a) = false := by rw [ht]; cases sg b <;> rfl
        have hR := R_far_diff (sg b) n m (-1074 + (e : Int)) (f - e) far n0 hm
        rw [show -1074 + (e : Int) + ((f - e : Nat) : Int) = -1074 + (f : Int) from by omega] at hR
        cases hst : (m % 2 ^ (f - e - 64) != 0)
        · rw [hst] at hR
          refine fin ?_ (add_sf_hi _ _ w (sg a) (sg b) m n (-1074 + (e : Int)) (-1074 + (f : Int)) _ _ _ _ _ 4 _ _ hA' hB' iA' iB' ZZ o1 o2 (by omega) (by omega) (by omega) (by omega) (by omega) (by omega) (right_of (K := f - e - 64) hm (by omega) (by omega) hst) (left_of (D := 64) hn (by omega) rfl) hneq (cond (by omega) (by omega)) (sub64_nat _ _ (by omega) (by omega)) (by rw [V_hi _ _ (X_lt hn (by omega)) (by omega) (by omega)]; exact b1 (by omega)) (V_ge 0 (n * 2 ^ 64) (m / 2 ^ (f - e - 64)) (sg b) _ false (X_lt hn (by omega)) (by omega) (by omega) (by omega) (by omega)))
          rw [hsum', hR]; rfl
        · rw [hst] at hR
          have n52 : 4503599627370496 ≤ n := by omega
          refine fin ?_ (add_sf_more _ _ w (sg a) (sg b) m n (-1074 + (e : Int)) (-1074 + (f : Int)) _ _ _ _ _ 4 _ _ _ _ hA' hB' iA' iB' ZZ o1 o2 (by omega) (by omega) (by omega) (by omega) (by omega) (by omega) (right_of (K := f - e - 64) hm (by omega) (by omega) hst) (left_of (D := 64) hn (by omega) rfl) hneq (cond (by omega) (by omega)) (sub64_nat _ _ (by omega) (by omega)) (sub64_nat _ 1 (by omega) (by omega)) (by rw [V_hi2 _ _ (X_lt hn (by omega)) (by omega) (by omega)]; exact b1 (by omega)) (V_more 0 (n * 2 ^ 64) (m / 2 ^ (f - e - 64)) (sg b) _ (X_lt hn (by omega)) (by omega) (by omega) (by omega) (by omega)))
          rw [hsum', hR]; rfl
    · by_cases same : sg b = sg a
      · rw [← same] at o1 hsum'
        refine fin ?_ (add_sc_same _ _ w (sg b) m n (-1074 + (e : Int)) (-1074 + (f : Int)) _ _ _ _ _ 4 hA' hB' iA' iB' ZZ o1 o2 (by omega) (by omega) (by omega) (by omega) (by omega) (by omega) (left_of (D := f - e) hn (by omega) (by omega)) (add64_nat _ _) (V_same 0 (n * 2 ^ (f - e)) m (sg b) _ false (X_lt hn (by omega)) hm (by omega) (by omega) (fun h => by cases h)))
        rw [hsum', R_near_same (sg b) n m _ _ h0.symm]
      · have ht : sg a = !sg b := by revert same; cases sg a <;> cases sg b <;> simp
        rw [ht] at hsum'
        have hneq : (sg b == sg a) = false := by rw [ht]; cases sg b <;> rfl
        have hX := X_lt hn (D := f - e) (by omega)
        rcases Nat.lt_trichotomy (n * 2 ^ (f - e)) m with c | c | c
        · refine fin ?_ (add_sc_lt _ _ w (sg a) (sg b) m n (-1074 + (e : Int)) (-1074 + (f : Int)) _ _ 0 0 _ 4 hA' hB' iA' iB' ZZ o1 o2 (by omega) (by omega) (by omega) (by omega) (by omega) (by omega) (left_of (D := f - e) hn (by omega) (by omega)) hneq (by omega) (by omega) (V_lt 0 (n * 2 ^ (f - e)) m (sg a) _ c hm (by omega) (by omega)))
          rw [hsum', R_near_lt (sg b) n m _ _ c, ht]
        · refine fin ?_ (add_sc_zero _ _ w (sg a) (sg b) m n (-1074 + (e : Int)) (-1074 + (f : Int)) _ _ _ _ 0 4 hA' hB' iA' iB' ZZ o1 o2 (by omega) (by omega) (by omega) (by omega) (by omega) (by omega) (left_of (D := f - e) hn (by omega) (by omega)) hneq (cond (by omega) hm) (sub64_nat _ _ (by omega) (by omega)) (by rw [V_hi _ _ hX hm (by omega)]; exact b0 (by omega)) (by rw [V_lo _ _ hm (by omega)]; exact b0 (by omega)))
          rw [hsum', R_near_zero (sg b) n m _ _ c]
        · by_cases c1 : (n * 2 ^ (f - e) - m) / 18446744073709551616 = 0
          · refine fin ?_ (add_sc_lo _ _ w (sg a) (sg b) m n (-1074 + (e : Int)) (-1074 + (f : Int)) _ _ _ _ _ 4 hA' hB' iA' iB' ZZ o1 o2 (by omega) (by omega) (by omega) (by omega) (by omega) (by omega) (left_of (D := f - e) hn (by omega) (by omega)) hneq (cond (by omega) hm) (sub64_nat _ _ (by omega) (by omega)) (by rw [V_hi _ _ hX hm (by omega)]; exact b0 c1) (by rw [V_lo _ _ hm (by omega)]; exact b1 (by omega)) (V_ge 0 (n * 2 ^ (f - e)) m (sg b) _ false hX hm (by omega) (by omega) (by omega)))
            rw [hsum', R_near_gt (sg b) n m _ _ c]
          · refine fin ?_ (add_sc_hi _ _ w (sg a) (sg b) m n (-1074 + (e : Int)) (-1074 + (f : Int)) _ _ _ _ _ 4 hA' hB' iA' iB' ZZ o1 o2 (by omega) (by omega) (by omega) (by omega) (by omega) (by omega) (left_of (D := f - e) hn (by omega) (by omega)) hneq (cond (by omega) hm) (sub64_nat _ _ (by omega) (by omega)) (by rw [V_hi _ _ hX hm (by omega)]; exact b1 c1) (V_ge 0 (n * 2 ^ (f - e)) m (sg b) _ false hX hm (by omega) (by omega) (by omega)))
            rw [hsum', R_near_gt (sg b) n m _ _ c]
  · -- as they stand
    have hsum' : fadd (a : Int) (b : Int) = sumOf (sg a) (sg b) m n (-1074 + (f : Int)) (e - f) := by
      unfold sumOf; rw [hsum, show -1074 + (f : Int) + ((e - f : Nat) : Int) = -1074 + (e : Int) from by omega]
    by_cases far : 64 < e - f
    · have m0 : m ≠ 0 := by omega
      have hq : n / 2 ^ (e - f - 64) ≤ n := Nat.div_le_self _ _
      have hX : m * 2 ^ 64 = m * 18446744073709551616 := rfl
      by_cases same : sg a = sg b
      · rw [← same] at o2 hsum'
        refine fin ?_ (add_nf_same _ _ w (sg a) m n (-1074 + (e : Int)) (-1074 + (f : Int)) _ _ _ _ _ 4 _ _ (n % 2 ^ (e - f - 64) != 0) hA' hB' iA' iB' ZZ o1 o2 (by omega) (by omega) (by omega) (by omega) (by omega) (by omega) (right_of (K := e - f - 64) hn (by omega) (by omega) rfl) (left_of (D := 64) hm (by omega) rfl) (add64_nat _ _) (V_same 0 (m * 2 ^ 64) (n / 2 ^ (e - f - 64)) (sg a) _ _ (X_lt hm (by omega)) (by omega) (by omega) (by omega) (fun _ => Nat.le_trans (by omega) (Nat.le_add_right (m * 2 ^ 64) _))))
        rw [hsum', R_far_same (sg a) m n _ _ far m0, show -1074 + (f : Int) + ((e - f : Nat) : Int) = -1074 + (e : Int) from by omega]
      · have ht : sg b = !sg a := by revert same; cases sg a <;> cases sg b <;> simp
        rw [ht] at hsum'
        have hneq : (sg a == sg b) = false := by rw [ht]; cases sg a <;> rfl
        have hR := R_far_diff (sg a) m n (-1074 + (f : Int)) (e - f) far m0 hn
        rw [show -1074 + (f : Int) + ((e - f : Nat) : Int) = -1074 + (e : Int) from by omega] at hR
        cases hst : (n % 2 ^ (e - f - 64) != 0)
        · rw [hst] at hR
          refine fin ?_ (add_nf_hi _ _ w (sg a) (sg b) m n (-1074 + (e : Int)) (-1074 + (f : Int)) _ _ _ _ _ 4 _ _ hA' hB' iA' iB' ZZ o1 o2 (by omega) (by omega) (by omega) (by omega) (by omega) (by omega) (right_of (K := e - f - 64) hn (by omega) (by omega) hst) (left_of (D := 64) hm (by omega) rfl) hneq (cond (by omega) (by omega)) (sub64_nat _ _ (by omega) (by omega)) (by rw [V_hi _ _ (X_lt hm (by omega)) (by omega) (by omega)]; exact b1 (by omega)) (V_ge 0 (m * 2 ^ 64) (n / 2 ^ (e - f - 64)) (sg a) _ false (X_lt hm (by omega)) (by omega) (by omega) (by omega) (by omega)))
          rw [hsum', hR]; rfl
        · rw [hst] at hR
          have m52 : 4503599627370496 ≤ m := by omega
          refine fin ?_ (add_nf_more _ _ w (sg a) (sg b) m n (-1074 + (e : Int)) (-1074 + (f : Int)) _ _ _ _ _ 4 _ _ _ _ hA' hB' iA' iB' ZZ o1 o2 (by omega) (by omega) (by omega) (by omega) (by omega) (by omega) (right_of (K := e - f - 64) hn (by omega) (by omega) hst) (left_of (D := 64) hm (by omega) rfl) hneq (cond (by omega) (by omega)) (sub64_nat _ _ (by omega) (by omega)) (sub64_nat _ 1 (by omega) (by omega)) (by rw [V_hi2 _ _ (X_lt hm (by omega)) (by omega) (by omega)]; exact b1 (by omega)) (V_more 0 (m * 2 ^ 64) (n / 2 ^ (e - f - 64)) (sg a) _ (X_lt hm (by omega)) (by omega) (by omega) (by omega) (by omega)))
          rw [hsum', hR]; rfl
    · by_cases same : sg a = sg b
      · rw [← same] at o2 hsum'
        refine fin ?_ (add_nc_same _ _ w (sg a) m n (-1074 + (e : Int)) (-1074 + (f : Int)) _ _ _ _ _ 4 hA' hB' iA' iB' ZZ o1 o2 (by omega) (by omega) (by omega) (by omega) (by omega) (by omega) (left_of (D := e - f) hm (by omega) (by omega)) (add64_nat _ _) (V_same 0 (m * 2 ^ (e - f)) n (sg a) _ false (X_lt hm (by omega)) hn (by omega) (by omega) (fun h => by cases h)))
        rw [hsum', R_near_same (sg a) m n _ _ h0]
      · have ht : sg b = !sg a := by revert same; cases sg a <;> cases sg b <;> simp
        rw [ht] at hsum'
        have hneq : (sg a == sg b) = false := by rw [ht]; cases sg a <;> rfl
        have hX := X_lt hm (D := e - f) (by omega)
        rcases Nat.lt_trichotomy (m * 2 ^ (e - f)) n with c | c | c
        · refine fin ?_ (add_nc_lt _ _ w (sg a) (sg b) m n (-1074 + (e : Int)) (-1074 + (f : Int)) _ _ 0 0 _ 4 hA' hB' iA' iB' ZZ o1 o2 (by omega) (by omega) (by omega) (by omega) (by omega) (by omega) (left_of (D := e - f) hm (by omega) (by omega)) hneq (by omega) (by omega) (V_lt 0 (m * 2 ^ (e - f)) n (sg b) _ c hn (by omega) (by omega)))
          rw [hsum', R_near_lt (sg a) m n _ _ c, ht]
        · refine fin ?_ (add_nc_zero _ _ w (sg a) (sg b) m n (-1074 + (e : Int)) (-1074 + (f : Int)) _ _ _ _ 0 4 hA' hB' iA' iB' ZZ o1 o2 (by omega) (by omega) (by omega) (by omega) (by omega) (by omega) (left_of (D := e - f) hm (by omega) (by omega)) hneq (cond (by omega) hn) (sub64_nat _ _ (by omega) (by omega)) (by rw [V_hi _ _ hX hn (by omega)]; exact b0 (by omega)) (by rw [V_lo _ _ hn (by omega)]; exact b0 (by omega)))
          rw [hsum', R_near_zero (sg a) m n _ _ c]
        · by_cases c1 : (m * 2 ^ (e - f) - n) / 18446744073709551616 = 0
          · refine fin ?_ (add_nc_lo _ _ w (sg a) (sg b) m n (-1074 + (e : Int)) (-1074 + (f : Int)) _ _ _ _ _ 4 hA' hB' iA' iB' ZZ o1 o2 (by omega) (by omega) (by omega) (by omega) (by omega) (by omega) (left_of (D := e - f) hm (by omega) (by omega)) hneq (cond (by omega) hn) (sub64_nat _ _ (by omega) (by omega)) (by rw [V_hi _ _ hX hn (by omega)]; exact b0 c1) (by rw [V_lo _ _ hn (by omega)]; exact b1 (by omega)) (V_ge 0 (m * 2 ^ (e - f)) n (sg a) _ false hX hn (by omega) (by omega) (by omega)))
            rw [hsum', R_near_gt (sg a) m n _ _ c]
          · refine fin ?_ (add_nc_hi _ _ w (sg a) (sg b) m n (-1074 + (e : Int)) (-1074 + (f : Int)) _ _ _ _ _ 4 hA' hB' iA' iB' ZZ o1 o2 (by omega) (by omega) (by omega) (by omega) (by omega) (by omega) (left_of (D := e - f) hm (by omega) (by omega)) hneq (cond (by omega) hn) (sub64_nat _ _ (by omega) (by omega)) (by rw [V_hi _ _ hX hn (by omega)]; exact b1 c1) (V_ge 0 (m * 2 ^ (e - f)) n (sg a) _ false hX hn (by omega) (by omega) (by omega)))
            rw [hsum', R_near_gt (sg a) m n _ _ c]
end Go.Proofs.Ytcobpbhmpolceaa.Pure
namespace Go.Proofs.Ytcobpbhmpolceaa.Ext
open Go.RowKit Go.Proofs.YtcobpbhmpolceaaW.PrintWords
def moidoreref03_Add.f (a0 a1 : Int) : Option Int := if (0 ≤ a0 ∧ a0 < 18446744073709551616) ∧ (0 ≤ a1 ∧ a1 < 18446744073709551616) then some (fadd a0 a1) else none
theorem moidoreref03_Add.calls (a0 a1 : Int) (r : Int) (w : World) (h : moidoreref03_Add.f a0 a1 = some r) :
    Calls Try.prog 26 #[.int .u64 a0, .int .u64 a1] w fun e w' => e = .returned (.int .u64 r) ∧ Below w.heap.size w w' := by
  unfold moidoreref03_Add.f at h
  split at h
  · rename_i hc
    obtain rfl := Option.some.inj h
    obtain ⟨m, rfl⟩ := Int.eq_ofNat_of_zero_le hc.1.1
    obtain ⟨n, rfl⟩ := Int.eq_ofNat_of_zero_le hc.2.1
    exact Pure.Add_any (by omega) (by omega) w
  · cases h
end Go.Proofs.Ytcobpbhmpolceaa.Ext
