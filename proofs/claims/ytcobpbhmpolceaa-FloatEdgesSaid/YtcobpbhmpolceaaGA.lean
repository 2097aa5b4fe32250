import Derived.Test.YtcobpbhmpolceaaFX
import Derived.Test.YtcobpbhmpolceaaPE3
/-! The reference's words, as numbers: shifts, lengths, rounding. Plain laws over the printed functions. -/
namespace Go.Proofs.Ytcobpbhmpolceaa.Pure
open Go.RowKit Go.Proofs.Ytcobpbhmpolceaa.Ext Go.Proofs.Ytcobpbhmpolceaa.PE Go.Proofs.YtcobpbhmpolceaaW.PrintWords Go.Proofs.YtcobpbhmpolceaaW.PrintLast Go.Proofs.YtcobpbhmpolceaaW.PrintMore Ieee
set_option linter.unusedVariables false
set_option linter.unusedSimpArgs false

theorem w64_id {x : Int} (h : -9223372036854775808 ≤ x) (h' : x < 9223372036854775808) : wrap64 x = x := by unfold wrap64; omega
theorem wrap_u64 (n : Int) : IntKind.u64.wrap n = n % 18446744073709551616 := by simp [IntKind.wrap, IntKind.bits, IntKind.signed]
theorem u64_id {x : Int} (h : 0 ≤ x) (h' : x < 18446744073709551616) : IntKind.u64.wrap x = x := by rw [wrap_u64]; omega

theorem shl_nat (x n : Nat) : shl .u64 (x : Int) (n : Int) = ((x * 2 ^ n % 18446744073709551616 : Nat) : Int) := by
  unfold shl
  rw [wrap_u64, Int.toNat_natCast, show IntKind.u64.bits = 64 from rfl]
  have e : (2 : Int) ^ min n 64 = ((2 ^ min n 64 : Nat) : Int) := by rw [Int.natCast_pow]; rfl
  rw [e, ← Int.natCast_mul, show (18446744073709551616 : Int) = ((18446744073709551616 : Nat) : Int) from rfl, ← Int.natCast_emod]
  congr 1
  by_cases h : n ≤ 64
  · rw [Nat.min_eq_left h]
  · rw [Nat.min_eq_right (by omega), show n = 64 + (n - 64) from by omega, Nat.pow_add, ← Nat.mul_assoc, Nat.mul_right_comm]
    rw [show (2 : Nat) ^ 64 = 18446744073709551616 from by decide, Nat.mul_mod_left, Nat.mul_mod_left]
theorem shr_nat (x n : Nat) (hx : x < 18446744073709551616) : shr .u64 (x : Int) (n : Int) = ((x / 2 ^ n : Nat) : Int) := by
  unfold shr
  rw [Int.toNat_natCast, show IntKind.u64.bits = 64 from rfl]
  have e : (2 : Int) ^ min n 64 = ((2 ^ min n 64 : Nat) : Int) := by rw [Int.natCast_pow]; rfl
  rw [e, ← Int.natCast_ediv]
  congr 1
  by_cases h : n ≤ 64
  · rw [Nat.min_eq_left h]
  · rw [Nat.min_eq_right (by omega), Nat.div_eq_of_lt (by exact hx), Nat.div_eq_of_lt]
    exact Nat.lt_of_lt_of_le hx (Nat.pow_le_pow_right (n := 2) (by decide) (show 64 ≤ n by omega))
theorem mask_nat (x n : Nat) (hx : x < 18446744073709551616) (hn : n < 64) : Go.bits .and .u64 (x : Int) (IntKind.u64.wrap ((shl .u64 1 (n : Int)) - 1)) = ((x % 2 ^ n : Nat) : Int) := by
  have h1 : 2 ^ n ≤ 2 ^ 63 := Nat.pow_le_pow_right (by decide) (by omega)
  have h2 : 0 < 2 ^ n := Nat.two_pow_pos n
  have h3 : (2 : Nat) ^ 63 = 9223372036854775808 := by decide
  rw [show (1 : Int) = ((1 : Nat) : Int) from rfl, shl_nat, Nat.one_mul, Nat.mod_eq_of_lt (by omega), u64_id (by omega) (by omega), show ((2 ^ n : Nat) : Int) - ((1 : Nat) : Int) = ((2 ^ n - 1 : Nat) : Int) from by omega, u64_and_nat _ _ hx (by omega), Nat.and_two_pow_sub_one_eq_mod]

theorem left_nat (lo n : Nat) (hlo : lo < 18446744073709551616) (hn : n ≤ 200) (hb : lo * 2 ^ n < 340282366920938463463374607431768211456) :
    moidoreref03_left.f 0 (lo : Int) (n : Int) = some (((lo * 2 ^ n / 18446744073709551616 : Nat) : Int), ((lo * 2 ^ n % 18446744073709551616 : Nat) : Int)) := by
  unfold moidoreref03_left.f
  by_cases h : 64 ≤ n
  · rw [if_pos (by omega), w64_id (by omega) (by omega), u64_id (by omega) (by omega), if_pos (by omega), show ((n : Int) - 64) = ((n - 64 : Nat) : Int) from by omega, shl_nat]
    have e : lo * 2 ^ n = lo * 2 ^ (n - 64) * 18446744073709551616 := by
      rw [Nat.mul_assoc, show (18446744073709551616 : Nat) = 2 ^ 64 from by decide, ← Nat.pow_add, Nat.sub_add_cancel h]
    rw [e] at hb ⊢
    rw [Nat.mul_div_cancel _ (show 0 < 18446744073709551616 from by decide), Nat.mul_mod_left]
    rw [Nat.mod_eq_of_lt (by omega)]; rfl
  · rw [if_neg (by omega), u64_id (by omega) (by omega), if_pos (by omega), w64_id (by omega) (by omega), u64_id (by omega) (by omega), if_pos (by omega), show ((64 : Int) - n) = ((64 - n : Nat) : Int) from by omega, show (0 : Int) = ((0 : Nat) : Int) from rfl, shl_nat, shl_nat, shr_nat _ _ hlo, Nat.zero_mul, Nat.zero_mod]
    have hd : lo / 2 ^ (64 - n) = lo * 2 ^ n / 18446744073709551616 := by
      rw [show (18446744073709551616 : Nat) = 2 ^ (64 - n) * 2 ^ n from by rw [← Nat.pow_add, Nat.sub_add_cancel (by omega)], Nat.mul_div_mul_right _ _ (Nat.two_pow_pos n)]
    have hl : lo / 2 ^ (64 - n) < 18446744073709551616 := Nat.lt_of_le_of_lt (Nat.div_le_self _ _) hlo
    rw [u64_or_nat _ _ (by decide) hl, Nat.zero_or, hd]

theorem right_nat (hi lo n : Nat) (hhi : hi < 18446744073709551616) (hlo : lo < 18446744073709551616) (hn : n ≤ 10000) :
    moidoreref03_right.f (hi : Int) (lo : Int) (n : Int) = some ((((hi * 18446744073709551616 + lo) / 2 ^ n / 18446744073709551616 : Nat) : Int), (((hi * 18446744073709551616 + lo) / 2 ^ n % 18446744073709551616 : Nat) : Int), ((hi * 18446744073709551616 + lo) % 2 ^ n != 0)) := by
  unfold moidoreref03_right.f
  have hm : hi * 18446744073709551616 + lo < 340282366920938463463374607431768211456 := by omega
  by_cases h : 128 ≤ n
  · have hp : 340282366920938463463374607431768211456 ≤ 2 ^ n := Nat.pow_le_pow_right (n := 2) (by decide) h
    have d0 : (hi * 18446744073709551616 + lo) / 2 ^ n = 0 := Nat.div_eq_of_lt (by omega)
    have d1 : (hi * 18446744073709551616 + lo) % 2 ^ n = hi * 18446744073709551616 + lo := Nat.mod_eq_of_lt (by omega)
    rw [if_pos (by omega), d0, d1, u64_or_nat _ _ hhi hlo]
    have : (((hi ||| lo : Nat) : Int) != 0) = (hi * 18446744073709551616 + lo != 0) := by
      rw [Bool.eq_iff_iff]
      simp only [bne_iff_ne, ne_eq]
      have z : hi ||| lo = 0 ↔ hi = 0 ∧ lo = 0 := Nat.or_eq_zero_iff
      omega
    rw [this]; rfl
  · rw [if_neg (by omega)]
    by_cases h' : 64 ≤ n
    · have hk : n - 64 < 64 := by omega
      rw [if_pos (by omega), w64_id (by omega) (by omega), u64_id (by omega) (by omega), if_pos (by omega), show ((n : Int) - 64) = ((n - 64 : Nat) : Int) from by omega, shr_nat _ _ hhi, mask_nat _ _ hhi hk]
      have hpw : 2 ^ n = 18446744073709551616 * 2 ^ (n - 64) := by rw [show (18446744073709551616 : Nat) = 2 ^ 64 from by decide, ← Nat.pow_add]; congr 1; omega
      have e1 : (hi * 18446744073709551616 + lo) / 2 ^ n = hi / 2 ^ (n - 64) := by
        rw [hpw, ← Nat.div_div_eq_div_mul, show (hi * 18446744073709551616 + lo) / 18446744073709551616 = hi from by omega]
      have e2 : (hi * 18446744073709551616 + lo) % 2 ^ n = lo + 18446744073709551616 * (hi % 2 ^ (n - 64)) := by
        rw [hpw, Nat.mod_mul, show (hi * 18446744073709551616 + lo) / 18446744073709551616 = hi from by omega]; omega
      have e3 : hi / 2 ^ (n - 64) < 18446744073709551616 := Nat.lt_of_le_of_lt (Nat.div_le_self _ _) hhi
      rw [e1, e2, Nat.div_eq_of_lt e3, Nat.mod_eq_of_lt e3]
      generalize hi % 2 ^ (n - 64) = z
      by_cases h0 : lo = 0
      · rw [if_pos (by omega)]
        have : (((z : Nat) : Int) != 0) = (lo + 18446744073709551616 * z != 0) := by
          rw [Bool.eq_iff_iff]; simp only [bne_iff_ne, ne_eq]; omega
        rw [this]; rfl
      · rw [if_neg (by omega)]
        have : true = (lo + 18446744073709551616 * z != 0) := by
          symm; rw [bne_iff_ne, ne_eq]; intro hz; apply h0; have := Nat.eq_zero_of_add_eq_zero_right hz; omega
        rw [this]; rfl
    · have hk : n < 64 := by omega
      rw [if_neg (by omega), u64_id (by omega) (by omega), if_pos (by omega), w64_id (by omega) (by omega), u64_id (by omega) (by omega), if_pos (by omega), show ((64 : Int) - n) = ((64 - n : Nat) : Int) from by omega, shl_nat, shr_nat _ _ hhi, shr_nat _ _ hlo, mask_nat _ _ hlo hk]
      have hN : 0 < 2 ^ n := Nat.two_pow_pos n
      have hpw : 2 ^ (64 - n) * 2 ^ n = 18446744073709551616 := by rw [← Nat.pow_add, Nat.sub_add_cancel (by omega)]
      have hmul : hi * 18446744073709551616 + lo = 2 ^ n * (hi * 2 ^ (64 - n)) + lo := by
        have : 2 ^ n * (hi * 2 ^ (64 - n)) = hi * (2 ^ (64 - n) * 2 ^ n) := by ac_rfl
        rw [this, hpw]
      have e1 : (hi * 18446744073709551616 + lo) / 2 ^ n = hi * 2 ^ (64 - n) + lo / 2 ^ n := by rw [hmul, Nat.mul_add_div hN]
      have e2 : (hi * 18446744073709551616 + lo) % 2 ^ n = lo % 2 ^ n := by rw [hmul, Nat.mul_add_mod]
      have hld : lo / 2 ^ n < 2 ^ (64 - n) := by rw [Nat.div_lt_iff_lt_mul hN, hpw]; exact hlo
      have hle : 2 ^ (64 - n) ≤ 18446744073709551616 := Nat.pow_le_pow_right (n := 2) (by decide) (show 64 - n ≤ 64 by omega)
      have ed : hi * 2 ^ (64 - n) = 18446744073709551616 * (hi / 2 ^ n) + hi % 2 ^ n * 2 ^ (64 - n) := by
        conv => lhs; rw [← Nat.div_add_mod hi (2 ^ n), Nat.add_mul]
        rw [Nat.mul_right_comm, Nat.mul_comm (2 ^ n), hpw]
      have hlt : hi % 2 ^ n * 2 ^ (64 - n) + lo / 2 ^ n < 18446744073709551616 := by
        have h1 := Nat.mod_lt hi hN
        have h2 : (hi % 2 ^ n + 1) * 2 ^ (64 - n) ≤ 2 ^ n * 2 ^ (64 - n) := Nat.mul_le_mul_right _ h1
        rw [Nat.mul_comm (2 ^ n), hpw, Nat.succ_mul] at h2
        omega
      have em : hi * 2 ^ (64 - n) % 18446744073709551616 = hi % 2 ^ n * 2 ^ (64 - n) := by rw [ed, Nat.mul_add_mod, Nat.mod_eq_of_lt (Nat.lt_of_le_of_lt (Nat.le_add_right _ _) hlt)]
      rw [e1, e2, em, u64_or_nat _ _ (by omega) (by omega), Nat.or_comm, Go.nat_join (64 - n) _ _ (Nat.mul_mod_left _ _) hld]
      have f1 : (hi * 2 ^ (64 - n) + lo / 2 ^ n) / 18446744073709551616 = hi / 2 ^ n := by rw [ed, Nat.add_assoc, Nat.mul_add_div (by decide), Nat.div_eq_of_lt hlt]; omega
      have f2 : (hi * 2 ^ (64 - n) + lo / 2 ^ n) % 18446744073709551616 = hi % 2 ^ n * 2 ^ (64 - n) + lo / 2 ^ n := by rw [ed, Nat.add_assoc, Nat.mul_add_mod, Nat.mod_eq_of_lt hlt]
      rw [f1, f2]
      have : ((((lo % 2 ^ n : Nat) : Int)) != 0) = (lo % 2 ^ n != 0) := by
        generalize lo % 2 ^ n = z
        rw [Bool.eq_iff_iff]; simp only [bne_iff_ne, ne_eq]; omega
      rw [this]
end Go.Proofs.Ytcobpbhmpolceaa.Pure
