import Derived.Test.YtcobpbhmpolceaaGA
import Derived.Test.YtcobpbhmpolceaaFO
/-! The reference rounds to the nearest word. Plain laws over the printed functions. -/
namespace Go.Proofs.Ytcobpbhmpolceaa.Pure
open Go.RowKit Go.Proofs.Ytcobpbhmpolceaa.Ext Go.Proofs.Ytcobpbhmpolceaa.PE Go.Proofs.YtcobpbhmpolceaaW.PrintWords Go.Proofs.YtcobpbhmpolceaaW.PrintLast Go.Proofs.YtcobpbhmpolceaaW.PrintMore Ieee
set_option linter.unusedVariables false
set_option linter.unusedSimpArgs false

/-- How many digits a number has. -/
def len2 (m : Nat) : Nat := if m = 0 then 0 else m.log2 + 1
theorem bitLenAux_eq : ∀ (f x : Nat), x < 2 ^ f → Lib.bitLenAux f x = len2 x
  | 0, x, h => by have : x = 0 := by simpa using h
                  subst this; rfl
  | f + 1, x, h => by
    unfold Lib.bitLenAux len2
    by_cases h0 : x = 0
    · rw [if_pos h0, if_pos h0]
    · rw [if_neg h0, if_neg h0, bitLenAux_eq f (x / 2) (by rw [Nat.pow_succ] at h; omega)]
      unfold len2
      conv => rhs; rw [Nat.log2_def]
      by_cases h2 : 2 ≤ x
      · rw [if_neg (by omega), if_pos h2]; omega
      · rw [if_pos (by omega), if_neg h2]
theorem bitLen_eq {x : Nat} (h : x < 18446744073709551616) : Lib.bitLen x = len2 x := bitLenAux_eq 64 x h
theorem len64_nat {x : Nat} (h : x < 18446744073709551616) : bits_Len64.f (x : Int) = some ((len2 x : Nat) : Int) := by
  unfold bits_Len64.f
  rw [if_pos ⟨by omega, by omega⟩, Int.toNat_natCast, bitLen_eq h]
theorem len2_le {x n : Nat} (h : x < 2 ^ n) : len2 x ≤ n := by
  unfold len2
  split
  · omega
  · rename_i h0
    have := (Nat.log2_lt h0).2 h
    omega
theorem length_nat {hi lo : Nat} (hhi : hi < 18446744073709551616) (hlo : lo < 18446744073709551616) : moidoreref03_length.f (hi : Int) (lo : Int) = some ((len2 (hi * 18446744073709551616 + lo) : Nat) : Int) := by
  unfold moidoreref03_length.f
  by_cases h : hi = 0
  · subst h
    rw [if_neg (by omega), len64_nat hlo, Nat.zero_mul, Nat.zero_add]; rfl
  · rw [if_pos (by omega), len64_nat hhi]
    have := len2_le (n := 64) hhi
    simp only [Option.bind_some]
    rw [w64_id (by omega) (by omega)]
    have e : len2 (hi * 18446744073709551616 + lo) = 64 + len2 hi := by
      have hq : (hi * 18446744073709551616 + lo) / 2 ^ 64 = hi := by rw [show (2 : Nat) ^ 64 = 18446744073709551616 from by decide]; omega
      have := log2_div (hi * 18446744073709551616 + lo) 64 (by rw [hq]; exact h)
      rw [hq] at this
      unfold len2
      rw [if_neg (by omega), if_neg h, this]; omega
    rw [e]; congr 1

theorem signed_nat (s : Bool) {r : Nat} (h : r < 9223372036854775808) : moidoreref03_signed.f s (r : Int) = some ((double.word s r : Nat) : Int) := by
  unfold moidoreref03_signed.f
  rw [double_word]
  cases s
  · rfl
  · rw [if_pos rfl, if_pos rfl, show (9223372036854775808 : Int) = ((9223372036854775808 : Nat) : Int) from rfl, u64_or_nat _ _ (by omega) (by decide), Nat.or_comm, Go.nat_join 63 _ _ (by decide) (by exact h)]

/-- The last step. -/
theorem j2_nat (k : Nat) (s : Bool) (m : Nat) (e : Int) (g1 g2 g3 : Int) (g4 : Bool) (hm : m ≤ 9007199254740992) (he : -1074 ≤ e) (he' : e ≤ 100000) (hlow : m < 4503599627370496 → e = -1074) :
    moidoreref03_rounded.j2 (k + 2) (m : Int) e s g1 g2 g3 g4 = some ((double.word s (min ((e + 1074).toNat * 4503599627370496 + m) rinf) : Nat) : Int) := by
  have hr : rinf = 9218868437227405312 := rfl
  have fin : ∀ (m : Nat) (e : Int), m < 9007199254740992 → -1074 ≤ e → e ≤ 100001 → (m < 4503599627370496 → e = -1074) →
      moidoreref03_rounded.j3 (k + 1) (m : Int) e s g1 g2 g3 g4 = some ((double.word s (min ((e + 1074).toNat * 4503599627370496 + m) rinf) : Nat) : Int) := by
    intro m e hm he he' hlow
    simp only [moidoreref03_rounded.j3]
    by_cases h1 : m < 4503599627370496
    · obtain rfl := hlow h1
      rw [if_pos (by omega), signed_nat s (by omega)]
      simp only [Option.bind_some]
      rw [show ((-1074 : Int) + 1074).toNat = 0 from by omega, Nat.zero_mul, Nat.zero_add, Nat.min_eq_left (by omega)]
    · rw [if_neg (by omega), w64_id (by omega) (by omega)]
      by_cases h2 : 2047 ≤ e + 1075
      · rw [if_pos h2, show (9218868437227405312 : Int) = ((9218868437227405312 : Nat) : Int) from rfl, signed_nat s (by omega)]
        simp only [Option.bind_some]
        rw [hr, Nat.min_eq_right (by omega)]
      · rw [if_neg h2, u64_id (x := e + 1075) (by omega) (by omega), u64_id (x := (e + 1075) * 4503599627370496) (by omega) (by omega)]
        obtain ⟨q, hq⟩ : ∃ q : Nat, e + 1075 = q := ⟨(e + 1075).toNat, by omega⟩
        have ea : Go.bits .and .u64 (m : Int) 4503599627370495 = ((m % 4503599627370496 : Nat) : Int) := by
          rw [show (4503599627370495 : Int) = ((4503599627370495 : Nat) : Int) from rfl, u64_and_nat _ _ (by omega) (by decide), show (4503599627370495 : Nat) = 2 ^ 52 - 1 from by decide, Nat.and_two_pow_sub_one_eq_mod]
        rw [ea, hq, show (q : Int) * 4503599627370496 = ((q * 4503599627370496 : Nat) : Int) from by omega, u64_or_nat _ _ (by omega) (by omega), Go.nat_join 52 _ _ (by rw [show (2 : Nat) ^ 52 = 4503599627370496 from by decide]; omega) (by rw [show (2 : Nat) ^ 52 = 4503599627370496 from by decide]; omega), signed_nat s (by omega)]
        simp only [Option.bind_some]
        rw [show (e + 1074).toNat = q - 1 from by omega]
        exact congrArg (fun z : Nat => some ((double.word s z : Nat) : Int)) (by omega)
  simp only [moidoreref03_rounded.j2]
  by_cases h : m = 9007199254740992
  · subst h
    rw [if_pos (by rfl), w64_id (by omega) (by omega), show (4503599627370496 : Int) = ((4503599627370496 : Nat) : Int) from rfl, fin _ _ (by omega) (by omega) (by omega) (by omega)]
    exact congrArg (fun z : Nat => some ((double.word s z : Nat) : Int)) (by omega)
  · rw [if_neg (by omega), fin m e (by omega) he (by omega) hlow]

theorem u64_succ {q : Nat} (h : q < 18446744073709551615) : IntKind.u64.wrap ((q : Int) + 1) = ((q + 1 : Nat) : Int) := by rw [u64_id (by omega) (by omega)]; rfl
theorem mul_lt_pow {m a b : Nat} (h : m < 2 ^ a) : m * 2 ^ b < 2 ^ (a + b) := by rw [Nat.pow_add]; exact (Nat.mul_lt_mul_right (Nat.two_pow_pos b)).2 h
theorem lt_len2 (m : Nat) : m < 2 ^ len2 m := by
  unfold len2
  split
  · rename_i h; subst h; decide
  · exact lt_log2 m
theorem len2_low {m : Nat} (h : m ≠ 0) : 2 ^ (len2 m - 1) ≤ m := by
  unfold len2
  rw [if_neg h, Nat.add_sub_cancel]
  exact ((Nat.log2_eq_iff h).1 rfl).1

theorem j1_no (k : Nat) (x3 x4 E g1 g2 : Int) (s b : Bool) : moidoreref03_rounded.j1 (k + 3) x3 x4 false s g1 g2 E b = moidoreref03_rounded.j2 (k + 2) x4 (wrap64 (E + x3)) s g1 g2 E b := by
  simp only [moidoreref03_rounded.j1, Bool.false_eq_true, if_false]
theorem j1_yes (k : Nat) (x3 x4 E g1 g2 : Int) (s b : Bool) : moidoreref03_rounded.j1 (k + 3) x3 x4 true s g1 g2 E b = moidoreref03_rounded.j2 (k + 2) (IntKind.u64.wrap (x4 + 1)) (wrap64 (E + x3)) s g1 g2 E b := by
  simp only [moidoreref03_rounded.j1, if_true]
theorem rne_up (m n : Nat) (more : Bool) (h0 : ¬ m = 0) : rne (2 * m + stk more) (n + 2) = m / 2 ^ n / 2 + stk ((m / 2 ^ n % 2 == 1) && ((m % 2 ^ n != 0) || more || (m / 2 ^ n / 2 % 2 == 1))) := by
  have hN : 0 < 2 ^ n := Nat.two_pow_pos n
  have hpow : 2 ^ (n + 2) = 4 * 2 ^ n := by rw [Nat.pow_succ, Nat.pow_succ]; omega
  have hdm := Nat.div_add_mod m (2 ^ n)
  have hml := Nat.mod_lt m hN
  have s1 := stk_le more
  have hc : m = 2 ^ n * (2 * (m / 2 ^ n / 2) + m / 2 ^ n % 2) + m % 2 ^ n := by
    rw [show 2 * (m / 2 ^ n / 2) + m / 2 ^ n % 2 = m / 2 ^ n from by omega]; omega
  have hb2 : m / 2 ^ n % 2 < 2 := Nat.mod_lt _ (by decide)
  generalize m / 2 ^ n / 2 = q at *
  generalize m / 2 ^ n % 2 = b at *
  generalize m % 2 ^ n = t at *
  have hlow : 2 ^ n * b + t < 2 * 2 ^ n := by
    have : 2 ^ n * b ≤ 2 ^ n * 1 := Nat.mul_le_mul_left _ (by omega)
    omega
  have e1 : 2 * m + stk more = 2 ^ (n + 2) * q + (2 * (2 ^ n * b + t) + stk more) := by
    rw [hpow]
    rw [Nat.mul_add, ← Nat.mul_assoc] at hc
    rw [hc, Nat.mul_assoc 4]
    have : 2 ^ n * 2 * q = 2 * (2 ^ n * q) := by ac_rfl
    rw [this]; omega
  have d1 : (2 * m + stk more) / 2 ^ (n + 2) = q := by
    rw [e1, Nat.mul_add_div (Nat.two_pow_pos _), Nat.div_eq_of_lt (by rw [hpow]; omega)]; omega
  have d2 : (2 * m + stk more) % 2 ^ (n + 2) = 2 * (2 ^ n * b + t) + stk more := by
    rw [e1, Nat.mul_add_mod, Nat.mod_eq_of_lt (by rw [hpow]; omega)]
  unfold rne
  rw [d1, d2, hpow]
  have hbb : b = 0 ∨ b = 1 := by omega
  rcases hbb with rfl | rfl
  · rw [Nat.mul_zero, if_neg (by omega)]; rfl
  · rw [Nat.mul_one]
    by_cases ht : t = 0
    · subst ht
      cases more
      · by_cases hodd : q % 2 = 1
        · rw [if_pos (by simp [stk, hodd]; omega), hodd]; rfl
        · rw [if_neg (by simp [stk]; omega), show (q % 2 == 1) = false from by simp; omega]; rfl
      · rw [if_pos (by simp [stk]; omega)]; rfl
    · rw [if_pos (by omega), show (t != 0) = true from by simpa using ht]; rfl

/-- What is rounded by hand is the nearest word. -/
theorem rounded_nat (k : Nat) (s : Bool) (hi lo : Nat) (E : Int) (more : Bool) (hhi : hi < 18446744073709551616) (hlo : lo < 18446744073709551616) (hE : -3000 ≤ E) (hE' : E ≤ 3000)
    (hmore : more = true → 9007199254740992 ≤ hi * 18446744073709551616 + lo) :
    moidoreref03_rounded.f (k + 4) s (hi : Int) (lo : Int) E more = some ((rnd s (hi * 18446744073709551616 + lo) E more : Nat) : Int) := by
  have hf : moidoreref03_rounded.f (k + 4) s (hi : Int) (lo : Int) E more = moidoreref03_rounded.j0 (k + 4) (decide (hi * 18446744073709551616 + lo = 0) && !more) s (hi : Int) (lo : Int) E more := by
    unfold moidoreref03_rounded.f
    by_cases h1 : hi = 0
    · by_cases h2 : lo = 0
      · rw [if_pos (by omega), if_pos (by omega), show decide (hi * 18446744073709551616 + lo = 0) = true from by simp; omega, Bool.true_and]
      · rw [if_pos (by omega), if_neg (by omega), show decide (hi * 18446744073709551616 + lo = 0) = false from by simp; omega, Bool.false_and]
    · rw [if_neg (by omega), show decide (hi * 18446744073709551616 + lo = 0) = false from by simp; omega, Bool.false_and]
  rw [hf]
  have hm128 : hi * 18446744073709551616 + lo < 2 ^ 128 := by rw [show (2 : Nat) ^ 128 = 340282366920938463463374607431768211456 from by decide]; omega
  have hlen := length_nat hhi hlo
  have hleft := left_nat lo
  have hright := fun n => right_nat hi lo n hhi hlo
  have hbig : hi * 18446744073709551616 + lo < 18446744073709551616 → hi = 0 := by omega
  have hmod : hi = 0 → hi * 18446744073709551616 + lo = lo := by omega
  simp only [moidoreref03_rounded.j0]
  by_cases h0 : hi * 18446744073709551616 + lo = 0
  · have hmf : more = false := by
      cases more
      · rfl
      · have := hmore rfl; omega
    subst hmf
    rw [h0, show (decide ((0 : Nat) = 0) && !false) = true from rfl, if_pos rfl, show (0 : Int) = ((0 : Nat) : Int) from rfl, signed_nat s (by decide)]
    rw [Option.bind_some]
    rw [rnd_exact]; simp [RP]
  rw [show (decide (hi * 18446744073709551616 + lo = 0) && !more) = false from by rw [decide_eq_false h0]; rfl]
  rw [if_neg (by decide), hlen]
  rw [Option.bind_some]
  generalize hM : hi * 18446744073709551616 + lo = m at *
  have hL : len2 m = m.log2 + 1 := by unfold len2; rw [if_neg h0]
  have hL128 : len2 m ≤ 128 := len2_le hm128
  rw [w64_id (x := ((len2 m : Nat) : Int) - 53) (by omega) (by omega), w64_id (x := -1074 - E) (by omega) (by omega)]
  have hdrop : mx (((len2 m : Nat) : Int) - 53) (-1074 - E) = max (((len2 m : Nat) : Int) - 53) (-1074 - E) := by unfold mx; split <;> omega
  rw [hdrop]
  have hd1 : ((len2 m : Nat) : Int) - 53 ≤ max (((len2 m : Nat) : Int) - 53) (-1074 - E) := Int.le_max_left _ _
  have hd2 : -1074 - E ≤ max (((len2 m : Nat) : Int) - 53) (-1074 - E) := Int.le_max_right _ _
  have hd3 : max (((len2 m : Nat) : Int) - 53) (-1074 - E) = ((len2 m : Nat) : Int) - 53 ∨ max (((len2 m : Nat) : Int) - 53) (-1074 - E) = -1074 - E := by omega
  generalize max (((len2 m : Nat) : Int) - 53) (-1074 - E) = drop at *
  by_cases hdr : drop ≤ 0
  · have hmf : more = false := by
      cases more
      · rfl
      · have h1 := hmore rfl
        have h2 : 53 ≤ m.log2 := (Nat.le_log2 h0).2 h1
        omega
    subst hmf
    obtain ⟨n, hn⟩ : ∃ n : Nat, drop = -(n : Int) := ⟨(-drop).toNat, by omega⟩
    subst hn
    have hm53 : m * 2 ^ n < 2 ^ 53 := Nat.lt_of_lt_of_le (mul_lt_pow (b := n) (lt_len2 m)) (Nat.pow_le_pow_right (by decide) (by omega))
    have hmle : m ≤ m * 2 ^ n := Nat.le_mul_of_pos_right _ (Nat.two_pow_pos n)
    have h53 : (2 : Nat) ^ 53 = 9007199254740992 := by decide
    rw [h53] at hm53
    have hhi0 : hi = 0 := hbig (by omega)
    have hml : m = lo := hmod hhi0
    rw [if_pos hdr, w64_id (x := - -(n : Int)) (by omega) (by omega), show - -(n : Int) = (n : Int) from by omega, hhi0]
    rw [show ((0 : Nat) : Int) = 0 from rfl, hleft n hlo (by omega) (by rw [← hml]; omega), ← hml]
    rw [Option.bind_some, j1_no]
    show moidoreref03_rounded.j2 (k + 2) ((m * 2 ^ n % 18446744073709551616 : Nat) : Int) _ _ _ _ _ _ = _
    rw [w64_id (x := E + -(n : Int)) (by omega) (by omega), Nat.mod_eq_of_lt (by omega), j2_nat k s _ _ _ _ _ _ (by omega) (by omega) (by omega) ?_]
    · rw [rnd_exact]
      congr 3
      unfold RP
      rw [if_neg h0, show max (E + (m.log2 : Int) - 52) (-1074) = E + -(n : Int) from by omega, show (E - (E + -(n : Int))).toNat = n from by omega, show (E + -(n : Int) - E).toNat = 0 from by omega, rne_zero]
    · intro hlow
      rcases hd3 with h | h
      · exfalso
        have h1 := len2_low h0
        have h2 : 2 ^ (len2 m - 1) * 2 ^ n ≤ m * 2 ^ n := Nat.mul_le_mul_right _ h1
        rw [← Nat.pow_add, show len2 m - 1 + n = 52 from by omega, show (2 : Nat) ^ 52 = 4503599627370496 from by decide] at h2
        omega
      · omega
  · obtain ⟨n, hn⟩ : ∃ n : Nat, drop = (n : Int) + 1 := ⟨(drop - 1).toNat, by omega⟩
    subst hn
    have hN : 0 < 2 ^ n := Nat.two_pow_pos n
    rw [if_neg hdr, w64_id (x := (n : Int) + 1 - 1) (by omega) (by omega), show (n : Int) + 1 - 1 = (n : Int) from by omega, hright n (by omega)]
    rw [Option.bind_some]
    -- what stands
    have hm53 : m / 2 ^ (n + 1) < 2 ^ 53 := by
      rw [Nat.div_lt_iff_lt_mul (Nat.two_pow_pos _), ← Nat.pow_add]
      exact Nat.lt_of_lt_of_le (lt_len2 m) (Nat.pow_le_pow_right (by decide) (by omega))
    have hv : m / 2 ^ n < 18446744073709551616 := by
      have : m / 2 ^ (n + 1) = m / 2 ^ n / 2 := by rw [Nat.pow_succ, Nat.div_div_eq_div_mul]
      rw [show (2 : Nat) ^ 53 = 9007199254740992 from by decide] at hm53
      omega
    have hq : m / 2 ^ (n + 1) = m / 2 ^ n / 2 := by rw [Nat.pow_succ, Nat.div_div_eq_div_mul]
    rw [Nat.mod_eq_of_lt hv]
    have hand : Go.bits .and .u64 ((m / 2 ^ n : Nat) : Int) 1 = ((m / 2 ^ n % 2 : Nat) : Int) := by
      rw [show (1 : Int) = ((1 : Nat) : Int) from rfl, u64_and_nat _ _ hv (by decide), Go.nat_mask1]
    have hhalf : ((m / 2 ^ n : Nat) : Int) / 2 = ((m / 2 ^ n / 2 : Nat) : Int) := by omega
    have hand2 : Go.bits .and .u64 ((m / 2 ^ n / 2 : Nat) : Int) 1 = ((m / 2 ^ n / 2 % 2 : Nat) : Int) := by
      rw [show (1 : Int) = ((1 : Nat) : Int) from rfl, u64_and_nat _ _ (by omega) (by decide), Go.nat_mask1]
    rw [hand, hhalf, hand2]
    -- the rung
    have key : ∀ up : Bool, m / 2 ^ n / 2 + stk up = rne (2 * m + stk more) (n + 2) → moidoreref03_rounded.j1 (k + 3) ((n : Int) + 1) ((m / 2 ^ n / 2 : Nat) : Int) up s (hi : Int) (lo : Int) E more = some ((rnd s m E more : Nat) : Int) := by
      intro up hup
      have hcut : m / 2 ^ n / 2 + stk up ≤ 9007199254740992 := by
        rw [show (2 : Nat) ^ 53 = 9007199254740992 from by decide, hq] at hm53
        have := stk_le up; omega
      have hlast : moidoreref03_rounded.j1 (k + 3) ((n : Int) + 1) ((m / 2 ^ n / 2 : Nat) : Int) up s (hi : Int) (lo : Int) E more = moidoreref03_rounded.j2 (k + 2) ((m / 2 ^ n / 2 + stk up : Nat) : Int) (E + ((n : Int) + 1)) s (hi : Int) (lo : Int) E more := by
        cases up
        · rw [j1_no, w64_id (x := E + ((n : Int) + 1)) (by omega) (by omega), show m / 2 ^ n / 2 + stk false = m / 2 ^ n / 2 from Nat.add_zero _]
        · rw [j1_yes, w64_id (x := E + ((n : Int) + 1)) (by omega) (by omega), show stk true = 1 from rfl, u64_succ (by have := Nat.le_trans (Nat.le_add_right _ _) hcut; omega)]
      rw [hlast, j2_nat k s _ _ _ _ _ _ hcut (by omega) (by omega) ?_]
      · unfold rnd RP
        have h2 : 2 * m + stk more ≠ 0 := by omega
        rw [if_neg h2, log2_stick m h0, show max (E - 1 + ((m.log2 + 1 : Nat) : Int) - 52) (-1074) = E + ((n : Int) + 1) from by omega, show (E - 1 - (E + ((n : Int) + 1))).toNat = 0 from by omega, show (E + ((n : Int) + 1) - (E - 1)).toNat = n + 2 from by omega, Nat.pow_zero, Nat.mul_one, hup]
      · intro hlow
        rcases hd3 with h | h
        · exfalso
          have h1 := len2_low h0
          have h3 : 2 ^ 52 ≤ m / 2 ^ (n + 1) := by
            rw [Nat.le_div_iff_mul_le (Nat.two_pow_pos _), ← Nat.pow_add]
            exact Nat.le_trans (Nat.pow_le_pow_right (by decide) (by omega)) h1
          rw [hq, show (2 : Nat) ^ 52 = 4503599627370496 from by decide] at h3
          omega
        · omega
    -- up or down
    have hrne := rne_up m n more h0
    clear hlen hleft hright hbig hmod hf
    have hbi : ((m / 2 ^ n % 2 : Nat) : Int) = 1 ↔ m / 2 ^ n % 2 = 1 := by omega
    have hb2 : (((m / 2 ^ n / 2 % 2 : Nat) : Int) == 1) = (m / 2 ^ n / 2 % 2 == 1) := by
      rw [Bool.eq_iff_iff, beq_iff_eq, beq_iff_eq]; omega
    simp only [hbi, hb2]
    cases ht : (m % 2 ^ n != 0)
    · rw [ht, Bool.false_or] at hrne
      rw [if_neg (by decide)]
      by_cases hb : m / 2 ^ n % 2 = 1
      · rw [show (m / 2 ^ n % 2 == 1) = true from by simp [hb], Bool.true_and] at hrne
        rw [if_pos hb]
        cases more
        · rw [if_neg (by decide)]
          exact key _ (by rw [hrne, Bool.false_or])
        · rw [if_pos rfl]
          exact key true (by rw [hrne, Bool.true_or])
      · rw [show (m / 2 ^ n % 2 == 1) = false from by simp [hb], Bool.false_and] at hrne
        rw [if_neg hb]
        exact key false (by rw [hrne])
    · rw [ht, Bool.true_or, Bool.true_or, Bool.and_true] at hrne
      rw [if_pos rfl]
      by_cases hb : m / 2 ^ n % 2 = 1
      · rw [show (m / 2 ^ n % 2 == 1) = true from by simp [hb]] at hrne
        rw [if_pos hb]
        exact key true hrne.symm
      · rw [show (m / 2 ^ n % 2 == 1) = false from by simp [hb]] at hrne
        rw [if_neg hb]
        exact key false hrne.symm
end Go.Proofs.Ytcobpbhmpolceaa.Pure

/-! Words opened. Plain laws over the printed functions. -/
namespace Go.Proofs.Ytcobpbhmpolceaa.Pure
open Go.RowKit Go.Proofs.Ytcobpbhmpolceaa.Ext Go.Proofs.Ytcobpbhmpolceaa.PE Go.Proofs.YtcobpbhmpolceaaW.PrintWords Go.Proofs.YtcobpbhmpolceaaW.PrintLast Go.Proofs.YtcobpbhmpolceaaW.PrintMore Ieee
set_option linter.unusedVariables false
set_option linter.unusedSimpArgs false

theorem top_off {a : Nat} (h : a < 18446744073709551616) : Go.bits .andNot .u64 (a : Int) 9223372036854775808 = ((rg a : Nat) : Int) := by
  rw [show (9223372036854775808 : Int) = ((9223372036854775808 : Nat) : Int) from rfl, u64_andNot_nat _ _ h (by decide)]
  have := Nat.and_two_pow_sub_one_eq_mod a 63
  rw [show (18446744073709551615 - 9223372036854775808 : Nat) = 2 ^ 63 - 1 from by decide, this]; rfl
theorem none_nat {a : Nat} (h : a < 18446744073709551616) : moidoreref03_none.f (a : Int) = some (decide (rinf < rg a)) := by
  unfold moidoreref03_none.f
  rw [top_off h]
  congr 1
  rw [decide_eq_decide]
  show (9218868437227405312 : Int) < _ ↔ (9218868437227405312 : Nat) < _
  omega
theorem sg_ge {a : Nat} (h : a < 18446744073709551616) : decide ((a : Int) ≥ 9223372036854775808) = sg a := by
  unfold sg
  rw [Bool.eq_iff_iff, decide_eq_true_eq, beq_iff_eq]; omega

/-- A finite word, opened. -/
theorem open_nat {a : Nat} (h : a < 18446744073709551616) (hf : rg a < rinf) : ∃ m e : Nat, moidoreref03_open.f (a : Int) = some (sg a, 0, (m : Int), -1074 + (e : Int), false) ∧ double.read a = .number (sg a) m (-1074 + (e : Int)) ∧
    m < 9007199254740992 ∧ (m = 0 ↔ rg a = 0) ∧ e ≤ 2045 ∧ (e = 0 ∨ 4503599627370496 ≤ m) := by
  have hr : rinf = 9218868437227405312 := rfl
  have hrg : rg a = a % 9223372036854775808 := rfl
  have e1 : Go.bits .and .u64 ((a : Int) / 4503599627370496) 2047 = ((rg a / 4503599627370496 : Nat) : Int) := by
    rw [show (a : Int) / 4503599627370496 = ((a / 4503599627370496 : Nat) : Int) from by omega, show (2047 : Int) = ((2047 : Nat) : Int) from rfl, u64_and_nat _ _ (by omega) (by decide), show (2047 : Nat) = 2 ^ 11 - 1 from by decide, Nat.and_two_pow_sub_one_eq_mod]
    congr 1
    rw [hrg, show (2 : Nat) ^ 11 = 2048 from by decide]
    omega
  have e2 : Go.bits .and .u64 (a : Int) 4503599627370495 = ((rg a % 4503599627370496 : Nat) : Int) := by
    rw [show (4503599627370495 : Int) = ((4503599627370495 : Nat) : Int) from rfl, u64_and_nat _ _ h (by decide), show (4503599627370495 : Nat) = 2 ^ 52 - 1 from by decide, Nat.and_two_pow_sub_one_eq_mod]
    congr 1
    rw [hrg, show (2 : Nat) ^ 52 = 4503599627370496 from by decide]
    omega
  unfold moidoreref03_open.f
  rw [e1, e2, sg_ge h, read_eq, w64_id (x := ((rg a / 4503599627370496 : Nat) : Int)) (by omega) (by omega)]
  by_cases h1 : rg a < 4503599627370496
  · refine ⟨rg a, 0, ?_, ?_, by omega, Iff.rfl, by omega, Or.inl rfl⟩
    · rw [if_pos (by omega), Nat.mod_eq_of_lt h1]; rfl
    · rw [if_pos h1]; rfl
  · refine ⟨4503599627370496 + rg a % 4503599627370496, rg a / 4503599627370496 - 1, ?_, ?_, by omega, by omega, by omega, Or.inr (by omega)⟩
    · rw [if_neg (by omega), w64_id (by omega) (by omega), show (4503599627370496 : Int) = ((4503599627370496 : Nat) : Int) from rfl, u64_or_nat _ _ (by omega) (by decide), Nat.or_comm, Go.nat_join 52 _ _ (by decide) (by rw [show (2 : Nat) ^ 52 = 4503599627370496 from by decide]; omega)]
      exact congrArg (fun z : Int => some (sg a, (0 : Int), ((4503599627370496 + rg a % 4503599627370496 : Nat) : Int), z, false)) (by omega)
    · rw [if_neg h1, if_pos hf]

theorem nat_wd {a : Int} (h : Wd a) : ∃ n : Nat, a = (n : Int) ∧ n < 18446744073709551616 := ⟨a.toNat, by have := h.1; omega, by have := h.2; have := h.1; omega⟩

theorem wn {x : Nat} (h : x < 18446744073709551616) : IntKind.u64.wrap ((x : Nat) : Int) = ((x : Nat) : Int) := u64_id (by omega) (by omega)
theorem fr_word {o : Option Nat} {r : Nat} (h : o = some r) : fr o = (r : Int) := by rw [h]; rfl
theorem inf_signed (s : Bool) : moidoreref03_signed.f s 9218868437227405312 = some ((double.word s rinf : Nat) : Int) := signed_nat s (by decide)
theorem zero_signed (s : Bool) : moidoreref03_signed.f s 0 = some ((double.word s 0 : Nat) : Int) := signed_nat s (r := 0) (by decide)

end Go.Proofs.Ytcobpbhmpolceaa.Pure
