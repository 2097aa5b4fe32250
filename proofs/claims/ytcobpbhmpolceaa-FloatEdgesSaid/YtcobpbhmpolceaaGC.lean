import Derived.Test.YtcobpbhmpolceaaGB
import Derived.Test.YtcobpbhmpolceaaPE4
import Derived.Test.YtcobpbhmpolceaaPE5
import Derived.Test.YtcobpbhmpolceaaPE6
/-! The reference's products, quotients, roots are the program's. Plain laws over the printed functions. -/
namespace Go.Proofs.Ytcobpbhmpolceaa.Pure
open Go.RowKit Go.Proofs.Ytcobpbhmpolceaa.Ext Go.Proofs.Ytcobpbhmpolceaa.PE Go.Proofs.YtcobpbhmpolceaaW.PrintWords Go.Proofs.YtcobpbhmpolceaaW.PrintLast Go.Proofs.YtcobpbhmpolceaaW.PrintMore Ieee
set_option linter.unusedVariables false
set_option linter.unusedSimpArgs false

/-! ### products -/
theorem hi_lo (a b : Nat) (ha : a < 18446744073709551616) (hb : b < 18446744073709551616) : bits_Mul64.f (a : Int) (b : Int) = some (((a * b / 18446744073709551616 : Nat) : Int), ((a * b % 18446744073709551616 : Nat) : Int)) := by
  have ma : ∀ {x : Nat}, x < 18446744073709551616 → Go.bits .and .u64 (x : Int) 4294967295 = ((x % 4294967296 : Nat) : Int) := by
    intro x hx
    rw [show (4294967295 : Int) = ((4294967295 : Nat) : Int) from rfl, u64_and_nat _ _ hx (by decide), show (4294967295 : Nat) = 2 ^ 32 - 1 from by decide, Nat.and_two_pow_sub_one_eq_mod]
  have wn : ∀ {x : Nat}, x < 18446744073709551616 → IntKind.u64.wrap ((x : Nat) : Int) = ((x : Nat) : Int) := fun hx => u64_id (by omega) (by omega)
  have a1 : a / 4294967296 ≤ 4294967295 := by omega
  have b1 : b / 4294967296 ≤ 4294967295 := by omega
  have a0 : a % 4294967296 ≤ 4294967295 := by omega
  have b0 : b % 4294967296 ≤ 4294967295 := by omega
  have ea : a = a / 4294967296 * 4294967296 + a % 4294967296 := by omega
  have eb : b = b / 4294967296 * 4294967296 + b % 4294967296 := by omega
  have prod : a * b = a / 4294967296 * (b / 4294967296) * 18446744073709551616 + (a / 4294967296 * (b % 4294967296) + a % 4294967296 * (b / 4294967296)) * 4294967296 + a % 4294967296 * (b % 4294967296) := by
    conv => lhs; rw [ea, eb]
    generalize a / 4294967296 = p; generalize a % 4294967296 = q; generalize b / 4294967296 = r; generalize b % 4294967296 = s
    have t1 : p * 4294967296 * (r * 4294967296) = p * r * 18446744073709551616 := by rw [Nat.mul_mul_mul_comm]
    have t2 : p * 4294967296 * s = p * s * 4294967296 := Nat.mul_right_comm _ _ _
    have t3 : q * (r * 4294967296) = q * r * 4294967296 := (Nat.mul_assoc _ _ _).symm
    rw [Nat.add_mul, Nat.mul_add, Nat.mul_add, t1, t2, t3, Nat.add_mul]
    omega
  unfold bits_Mul64.f
  rw [ma ha, ma hb, show (a : Int) / 4294967296 = ((a / 4294967296 : Nat) : Int) from by omega, show (b : Int) / 4294967296 = ((b / 4294967296 : Nat) : Int) from by omega]
  have m1 : a / 4294967296 * (b / 4294967296) ≤ 4294967295 * 4294967295 := Nat.mul_le_mul a1 b1
  have m2 : a / 4294967296 * (b % 4294967296) ≤ 4294967295 * 4294967295 := Nat.mul_le_mul a1 b0
  have m3 : a % 4294967296 * (b / 4294967296) ≤ 4294967295 * 4294967295 := Nat.mul_le_mul a0 b1
  have m4 : a % 4294967296 * (b % 4294967296) ≤ 4294967295 * 4294967295 := Nat.mul_le_mul a0 b0
  have low : IntKind.u64.wrap ((a : Int) * (b : Int)) = ((a * b % 18446744073709551616 : Nat) : Int) := by
    rw [wrap_u64, ← Int.natCast_mul]; omega
  rw [low]
  simp only [← Int.natCast_mul]
  generalize a / 4294967296 * (b / 4294967296) = hh at *
  generalize a / 4294967296 * (b % 4294967296) = hl at *
  generalize a % 4294967296 * (b / 4294967296) = lh at *
  generalize a % 4294967296 * (b % 4294967296) = ll at *
  generalize a * b = ab at *
  clear ea eb low ha hb
  rw [wn (x := ll) (by omega), wn (x := hl) (by omega), wn (x := hh) (by omega), wn (x := lh) (by omega)]
  rw [show (ll : Int) / 4294967296 = ((ll / 4294967296 : Nat) : Int) from by omega, ← Int.natCast_add hl, wn (x := hl + ll / 4294967296) (by omega), ma (x := hl + ll / 4294967296) (by omega)]
  rw [show ((hl + ll / 4294967296 : Nat) : Int) / 4294967296 = (((hl + ll / 4294967296) / 4294967296 : Nat) : Int) from by omega, ← Int.natCast_add, wn (x := hh + (hl + ll / 4294967296) / 4294967296) (by omega), ← Int.natCast_add, wn (x := (hl + ll / 4294967296) % 4294967296 + lh) (by omega)]
  rw [show (((hl + ll / 4294967296) % 4294967296 + lh : Nat) : Int) / 4294967296 = ((((hl + ll / 4294967296) % 4294967296 + lh) / 4294967296 : Nat) : Int) from by omega, ← Int.natCast_add, u64_id (by omega) (by omega)]
  congr 2
  omega

theorem bne_top {a b : Nat} (ha : a < 18446744073709551616) (hb : b < 18446744073709551616) : (((a : Int) / 9223372036854775808) != ((b : Int) / 9223372036854775808)) = (sg a ^^ sg b) := by
  unfold sg
  have h1 : a / 9223372036854775808 = 0 ∨ a / 9223372036854775808 = 1 := by omega
  have h2 : b / 9223372036854775808 = 0 ∨ b / 9223372036854775808 = 1 := by omega
  have e1 : (a : Int) / 9223372036854775808 = ((a / 9223372036854775808 : Nat) : Int) := by omega
  have e2 : (b : Int) / 9223372036854775808 = ((b / 9223372036854775808 : Nat) : Int) := by omega
  rw [e1, e2]
  rcases h1 with h1 | h1 <;> rcases h2 with h2 | h2 <;> rw [h1, h2] <;> decide

theorem Mul_law (k : Nat) {a b : Nat} (ha : a < 18446744073709551616) (hb : b < 18446744073709551616) : moidoreref03_Mul.f (k + 5) (a : Int) (b : Int) = some (fmul (a : Int) (b : Int)) := by
  have hr : rinf = 9218868437227405312 := rfl
  unfold fmul
  rw [Int.toNat_natCast, Int.toNat_natCast]
  have hj : ∀ x21 : Bool, moidoreref03_Mul.j0 (k + 5) (a : Int) (b : Int) (sg a ^^ sg b) ((rg a : Nat) : Int) ((rg b : Nat) : Int) x21 =
      if x21 = true then (some 9221120237041090560) else (if ((rg a : Nat) : Int) = 9218868437227405312 then ((moidoreref03_signed.f (sg a ^^ sg b) 9218868437227405312).bind fun t177 => (some t177)) else (if ((rg b : Nat) : Int) = 9218868437227405312 then ((moidoreref03_signed.f (sg a ^^ sg b) 9218868437227405312).bind fun t178 => (some t178)) else ((moidoreref03_open.f (a : Int)).bind fun bt179 => ((moidoreref03_open.f (b : Int)).bind fun bt184 => ((bits_Mul64.f bt179.2.2.1 bt184.2.2.1).bind fun bt191 => ((moidoreref03_rounded.f (k + 4) (sg a ^^ sg b) bt191.1 bt191.2 (wrap64 (bt179.2.2.2.1 + bt184.2.2.2.1)) false).bind fun t193 => (some t193))))))) := by
    intro x21
    simp only [moidoreref03_Mul.j0]
  unfold moidoreref03_Mul.f
  rw [none_nat ha, none_nat hb, bne_top ha hb, top_off ha, top_off hb]
  simp only [Option.bind_some, hj, decide_eq_true_eq]
  by_cases na : rinf < rg a
  · rw [if_pos na, if_pos trivial]
    unfold Format.mul; rw [read_nan na]; rfl
  rw [if_neg na]
  by_cases nb : rinf < rg b
  · rw [if_pos nb, if_pos trivial]
    unfold Format.mul; rw [read_nan nb]; cases double.read a <;> rfl
  rw [if_neg nb]
  have la := rg_lt a
  have lb := rg_lt b
  by_cases ia : rg a = rinf
  · have ia' : ((rg a : Nat) : Int) = 9218868437227405312 := by omega
    simp only [ia', if_true]
    by_cases zb : rg b = 0
    · rw [if_pos (by omega)]
      obtain ⟨n, f, -, h2, -, h4, -⟩ := open_nat hb (by omega)
      unfold Format.mul; rw [read_inf ia, h2, h4.2 zb]; rfl
    · rw [if_neg (by omega)]
      rw [if_neg (by decide), if_neg (by decide), inf_signed]
      simp only [Option.bind_some]
      unfold Format.mul
      rw [read_inf ia]
      by_cases ib : rg b = rinf
      · rw [read_inf ib]; rfl
      · obtain ⟨n, f, -, h2, -, h4, -⟩ := open_nat hb (by omega)
        rw [h2]
        simp only [Datum.product, show n ≠ 0 from fun h => zb (h4.1 h), if_false]; rfl
  · rw [if_neg (by omega)]
    have ia' : ¬ ((rg a : Nat) : Int) = 9218868437227405312 := by omega
    simp only [ia', if_false]
    by_cases ib : rg b = rinf
    · have ib' : ((rg b : Nat) : Int) = 9218868437227405312 := by omega
      rw [ib']
      simp only [if_true]
      obtain ⟨m, e, -, h2, -, h4, -⟩ := open_nat ha (by omega)
      by_cases za : rg a = 0
      · rw [if_pos (by omega), if_pos (by decide)]
        unfold Format.mul; rw [read_inf ib, h2, h4.2 za]; rfl
      · rw [if_neg (by omega), if_neg (by decide), inf_signed]
        simp only [Option.bind_some]
        unfold Format.mul
        rw [read_inf ib, h2]
        simp only [Datum.product, show m ≠ 0 from fun h => za (h4.1 h), if_false]; rw [Bool.xor_comm]; rfl
    · have ib' : ¬ ((rg b : Nat) : Int) = 9218868437227405312 := by omega
      have hbe : (((rg b : Nat) : Int) == 9218868437227405312) = false := by simpa using ib'
      rw [hbe]
      simp only [if_neg (show ¬ (false = true) from by decide), ite_self, ib', if_false]
      obtain ⟨m, e, o1, h2, hm, h4, he, -⟩ := open_nat ha (by omega)
      obtain ⟨n, f, o2, h5, hn, h7, hf, -⟩ := open_nat hb (by omega)
      rw [o1, Option.bind_some, o2, Option.bind_some]
      show (bits_Mul64.f (m : Int) (n : Int)).bind _ = _
      rw [hi_lo m n (by omega) (by omega), Option.bind_some]
      have hmn : m * n < 340282366920938463463374607431768211456 := by
        have := Nat.mul_lt_mul_of_lt_of_lt hm hn; omega
      show (moidoreref03_rounded.f (k + 4) (sg a ^^ sg b) ((m * n / 18446744073709551616 : Nat) : Int) ((m * n % 18446744073709551616 : Nat) : Int) (wrap64 (-1074 + (e : Int) + (-1074 + (f : Int)))) false).bind _ = _
      rw [w64_id (by omega) (by omega), rounded_nat k _ _ _ _ _ (by omega) (by omega) (by omega) (by omega) (fun h => by cases h), Option.bind_some, show m * n / 18446744073709551616 * 18446744073709551616 + m * n % 18446744073709551616 = m * n from by omega, rnd_exact]
      unfold Format.mul
      rw [h2, h5, fr_word (mul_spec _ _ _ _ _ _)]
end Go.Proofs.Ytcobpbhmpolceaa.Pure

/-! The reference's quotients are the program's. Plain laws over the printed functions. -/
namespace Go.Proofs.Ytcobpbhmpolceaa.Pure
open Go.RowKit Go.Proofs.Ytcobpbhmpolceaa.Ext Go.Proofs.Ytcobpbhmpolceaa.PE Go.Proofs.YtcobpbhmpolceaaW.PrintWords Go.Proofs.YtcobpbhmpolceaaW.PrintLast Go.Proofs.YtcobpbhmpolceaaW.PrintMore Ieee
set_option linter.unusedVariables false
set_option linter.unusedSimpArgs false

theorem lead_nat {x : Nat} (h : x < 18446744073709551616) : bits_LeadingZeros64.f (x : Int) = some ((64 - len2 x : Nat) : Int) := by
  unfold bits_LeadingZeros64.f
  have := len2_le (n := 64) h
  rw [len64_nat h, Option.bind_some, w64_id (by omega) (by omega)]
  congr 1
  omega

theorem tdiv_nat (a b : Nat) : Int.tdiv (a : Int) (b : Int) = ((a / b : Nat) : Int) := rfl

/-- The end of the second digit. -/
def fin1 (x2 x14 x15 x17 q : Nat) : Option (Int × Int) := some (IntKind.u64.wrap ((IntKind.u64.wrap ((x15 : Int) * 4294967296)) + (q : Int)), shr .u64 (IntKind.u64.wrap ((IntKind.u64.wrap ((IntKind.u64.wrap ((x17 : Int) * 4294967296)) + (x14 : Int))) - (IntKind.u64.wrap ((q : Int) * (x2 : Int))))) 0)

theorem l1_step (k : Nat) (x2 y1 y0 d x15 u q r : Nat) (hq : q ≤ 4294967297) (hr : r < 4294967296) (hy1 : y1 < 4294967296) (hy0 : y0 < 4294967296) (hd : d < 4294967296) :
    bits_Div64.l1 (k + 2) (x2 : Int) 0 (y1 : Int) (y0 : Int) (d : Int) (x15 : Int) (r : Int) (u : Int) (q : Int) =
      if 4294967296 ≤ q ∨ 4294967296 * r + d < q * y0 then (if 4294967296 ≤ r + y1 then fin1 x2 d x15 u (q - 1) else bits_Div64.l1 k (x2 : Int) 0 (y1 : Int) (y0 : Int) (d : Int) (x15 : Int) ((r + y1 : Nat) : Int) (u : Int) ((q - 1 : Nat) : Int)) else fin1 x2 d x15 u q := by
  have hj : ∀ b : Bool, bits_Div64.j4 (k + 1) (x2 : Int) 0 (y1 : Int) (y0 : Int) (d : Int) (x15 : Int) (r : Int) (u : Int) (q : Int) b = (if b = true then (if 4294967296 ≤ r + y1 then some (IntKind.u64.wrap ((IntKind.u64.wrap ((x15 : Int) * 4294967296)) + (IntKind.u64.wrap ((q : Int) - 1))), shr .u64 (IntKind.u64.wrap ((IntKind.u64.wrap ((IntKind.u64.wrap ((u : Int) * 4294967296)) + (d : Int))) - (IntKind.u64.wrap ((IntKind.u64.wrap ((q : Int) - 1)) * (x2 : Int))))) 0) else bits_Div64.l1 k (x2 : Int) 0 (y1 : Int) (y0 : Int) (d : Int) (x15 : Int) ((r + y1 : Nat) : Int) (u : Int) (IntKind.u64.wrap ((q : Int) - 1))) else fin1 x2 d x15 u q) := by
    intro b
    simp only [bits_Div64.j4]
    have e : IntKind.u64.wrap ((r : Int) + (y1 : Int)) = ((r + y1 : Nat) : Int) := by rw [← Int.natCast_add, wn (by omega)]
    rw [e, if_pos (show (0 : Int) ≤ 0 by omega), if_pos (show (0 : Int) ≤ 0 by omega)]
    have c : ((r + y1 : Nat) : Int) ≥ 4294967296 ↔ 4294967296 ≤ r + y1 := by omega
    simp only [c]
    rfl
  simp only [bits_Div64.l1]
  by_cases h1 : 4294967296 ≤ q
  · rw [if_pos (by omega), hj, if_pos rfl, if_pos (Or.inl h1), u64_id (x := (q : Int) - 1) (by omega) (by omega), show (q : Int) - 1 = ((q - 1 : Nat) : Int) from by omega]
    rfl
  · have hqy : q * y0 ≤ 4294967295 * 4294967295 := Nat.mul_le_mul (by omega) (by omega)
    have e1 : IntKind.u64.wrap ((q : Int) * (y0 : Int)) = ((q * y0 : Nat) : Int) := by rw [← Int.natCast_mul, wn (by omega)]
    have e2 : IntKind.u64.wrap (IntKind.u64.wrap (4294967296 * (r : Int)) + (d : Int)) = ((4294967296 * r + d : Nat) : Int) := by
      rw [show (4294967296 * (r : Int)) = ((4294967296 * r : Nat) : Int) from by omega, wn (by omega), ← Int.natCast_add, wn (by omega)]
    rw [if_neg (by omega), hj, e1, e2]
    have c : decide (((q * y0 : Nat) : Int) > ((4294967296 * r + d : Nat) : Int)) = decide (4294967296 * r + d < q * y0) := by rw [decide_eq_decide]; omega
    rw [c]
    by_cases h2 : 4294967296 * r + d < q * y0
    · have hq1 : 1 ≤ q := by
        rcases Nat.eq_zero_or_pos q with h | h
        · subst h; rw [Nat.zero_mul] at h2; omega
        · exact h
      rw [if_pos (by simpa using h2), if_pos (Or.inr h2), u64_id (x := (q : Int) - 1) (by omega) (by omega), show (q : Int) - 1 = ((q - 1 : Nat) : Int) from by omega]
      rfl
    · rw [if_neg (by simpa using h2), if_neg (by rintro (h | h) <;> contradiction)]

/-- The second digit. -/
theorem l1_law (x2 y1 y0 d x15 u : Nat) (hx : x2 = y1 * 4294967296 + y0) (hp : 2147483648 ≤ y1) (hy1 : y1 < 4294967296) (hy0 : y0 < 4294967296) (hd : d < 4294967296) (hu : u < x2) (hx15 : x15 < 4294967296) :
    ∀ (t k q r : Nat), q < t → 2 * t ≤ k → Dig u d y1 y0 q r → bits_Div64.l1 k (x2 : Int) 0 (y1 : Int) (y0 : Int) (d : Int) (x15 : Int) (r : Int) (u : Int) (q : Int) =
      some (((x15 * 4294967296 + (u * 4294967296 + d) / x2 : Nat) : Int), (((u * 4294967296 + d) % x2 : Nat) : Int)) := by
  have hx2 : x2 < 18446744073709551616 := by omega
  have fin : ∀ q : Nat, q = (u * 4294967296 + d) / x2 → (u * 4294967296 + d) % x2 + q * x2 = u * 4294967296 + d → fin1 x2 d x15 u q = some (((x15 * 4294967296 + (u * 4294967296 + d) / x2 : Nat) : Int), (((u * 4294967296 + d) % x2 : Nat) : Int)) := by
    intro q hq hs
    have hml := Nat.mod_lt (u * 4294967296 + d) (show 0 < x2 by omega)
    have hqb : q < 4294967296 := by
      rw [hq, Nat.div_lt_iff_lt_mul (by omega)]
      have : (u + 1) * 4294967296 ≤ x2 * 4294967296 := Nat.mul_le_mul_right _ hu
      omega
    unfold fin1
    rw [← hq]
    generalize (u * 4294967296 + d) % x2 = m at *
    have e1 : IntKind.u64.wrap ((IntKind.u64.wrap ((x15 : Int) * 4294967296)) + (q : Int)) = ((x15 * 4294967296 + q : Nat) : Int) := by
      rw [show (x15 : Int) * 4294967296 = ((x15 * 4294967296 : Nat) : Int) from by omega, wn (by omega), ← Int.natCast_add, wn (by omega)]
    have e2 : IntKind.u64.wrap ((IntKind.u64.wrap ((IntKind.u64.wrap ((u : Int) * 4294967296)) + (d : Int))) - (IntKind.u64.wrap ((q : Int) * (x2 : Int)))) = ((m : Nat) : Int) := by
      rw [← Int.natCast_mul]
      generalize q * x2 = z at *
      simp only [wrap_u64]
      omega
    rw [e1, e2]
    have := shr_nat m 0 (by omega)
    rw [Nat.pow_zero, Nat.div_one] at this
    rw [show (0 : Int) = ((0 : Nat) : Int) from rfl, this]
  intro t
  induction t with
  | zero => intro k q r h; omega
  | succ t ih =>
    intro k q r hqt hk hD
    obtain ⟨k, rfl⟩ : ∃ m, k = m + 2 := ⟨k - 2, by omega⟩
    obtain ⟨hD1, hD2, hD3, hD4⟩ := hD
    rw [l1_step k x2 y1 y0 d x15 u q r hD3 hD2 hy1 hy0 hd]
    by_cases hc : 4294967296 ≤ q ∨ 4294967296 * r + d < q * y0
    · rw [if_pos hc]
      obtain ⟨g1, g2, g3⟩ := dig_less ⟨hD1, hD2, hD3, hD4⟩ (by omega) (by rw [← hx]; exact hu) hd hc
      by_cases hb : 4294967296 ≤ r + y1
      · rw [if_pos hb]
        obtain ⟨z1, z2⟩ := dig_done g3 g2 (by omega) (dig_break (by omega) hy0 hb)
        rw [← hx] at z1 z2
        exact fin _ z1 z2
      · rw [if_neg hb]
        exact ih k (q - 1) (r + y1) (by omega) (by omega) ⟨g3, by omega, by omega, g2⟩
    · rw [if_neg hc]
      obtain ⟨z1, z2⟩ := dig_done hD1 hD4 (by omega) (by omega)
      rw [← hx] at z1 z2
      exact fin _ z1 z2

theorem l0_step (k : Nat) (x2 y1 y0 u d x14 q r : Nat) (hq : q ≤ 4294967297) (hr : r < 4294967296) (hy1 : y1 < 4294967296) (hy0 : y0 < 4294967296) (hd : d < 4294967296) :
    bits_Div64.l0 (k + 2) (x2 : Int) 0 (y1 : Int) (y0 : Int) (u : Int) (d : Int) (x14 : Int) (q : Int) (r : Int) =
      if 4294967296 ≤ q ∨ 4294967296 * r + d < q * y0 then (if 4294967296 ≤ r + y1 then bits_Div64.j2 k (x2 : Int) 0 (y1 : Int) (y0 : Int) (u : Int) (d : Int) (x14 : Int) ((q - 1 : Nat) : Int) else bits_Div64.l0 k (x2 : Int) 0 (y1 : Int) (y0 : Int) (u : Int) (d : Int) (x14 : Int) ((q - 1 : Nat) : Int) ((r + y1 : Nat) : Int)) else bits_Div64.j2 k (x2 : Int) 0 (y1 : Int) (y0 : Int) (u : Int) (d : Int) (x14 : Int) (q : Int) := by
  have hj : ∀ b : Bool, bits_Div64.j1 (k + 1) (x2 : Int) 0 (y1 : Int) (y0 : Int) (u : Int) (d : Int) (x14 : Int) (q : Int) (r : Int) b = (if b = true then (if 4294967296 ≤ r + y1 then bits_Div64.j2 k (x2 : Int) 0 (y1 : Int) (y0 : Int) (u : Int) (d : Int) (x14 : Int) (IntKind.u64.wrap ((q : Int) - 1)) else bits_Div64.l0 k (x2 : Int) 0 (y1 : Int) (y0 : Int) (u : Int) (d : Int) (x14 : Int) (IntKind.u64.wrap ((q : Int) - 1)) ((r + y1 : Nat) : Int)) else bits_Div64.j2 k (x2 : Int) 0 (y1 : Int) (y0 : Int) (u : Int) (d : Int) (x14 : Int) (q : Int)) := by
    intro b
    simp only [bits_Div64.j1]
    have e : IntKind.u64.wrap ((r : Int) + (y1 : Int)) = ((r + y1 : Nat) : Int) := by rw [← Int.natCast_add, wn (by omega)]
    rw [e]
    have c : ((r + y1 : Nat) : Int) ≥ 4294967296 ↔ 4294967296 ≤ r + y1 := by omega
    simp only [c]
  simp only [bits_Div64.l0]
  by_cases h1 : 4294967296 ≤ q
  · rw [if_pos (by omega), hj, if_pos rfl, if_pos (Or.inl h1), u64_id (x := (q : Int) - 1) (by omega) (by omega), show (q : Int) - 1 = ((q - 1 : Nat) : Int) from by omega]
  · have hqy : q * y0 ≤ 4294967295 * 4294967295 := Nat.mul_le_mul (by omega) (by omega)
    have e1 : IntKind.u64.wrap ((q : Int) * (y0 : Int)) = ((q * y0 : Nat) : Int) := by rw [← Int.natCast_mul, wn (by omega)]
    have e2 : IntKind.u64.wrap (IntKind.u64.wrap (4294967296 * (r : Int)) + (d : Int)) = ((4294967296 * r + d : Nat) : Int) := by
      rw [show (4294967296 * (r : Int)) = ((4294967296 * r : Nat) : Int) from by omega, wn (by omega), ← Int.natCast_add, wn (by omega)]
    rw [if_neg (by omega), hj, e1, e2]
    have c : decide (((q * y0 : Nat) : Int) > ((4294967296 * r + d : Nat) : Int)) = decide (4294967296 * r + d < q * y0) := by rw [decide_eq_decide]; omega
    rw [c]
    by_cases h2 : 4294967296 * r + d < q * y0
    · have hq1 : 1 ≤ q := by
        rcases Nat.eq_zero_or_pos q with h | h
        · subst h; rw [Nat.zero_mul] at h2; omega
        · exact h
      rw [if_pos (by simpa using h2), if_pos (Or.inr h2), u64_id (x := (q : Int) - 1) (by omega) (by omega), show (q : Int) - 1 = ((q - 1 : Nat) : Int) from by omega]
    · rw [if_neg (by simpa using h2), if_neg (by rintro (h | h) <;> contradiction)]

/-- The quotient of two digits by one whose first bit is set. -/
theorem Div64_two (hi lo y Q R P u : Nat) (hP : P = (hi * 4294967296 + lo / 4294967296) / y) (hu : u = (hi * 4294967296 + lo / 4294967296) % y) (hQ : Q = P * 4294967296 + (u * 4294967296 + lo % 4294967296) / y) (hR : R = (u * 4294967296 + lo % 4294967296) % y) (hh : hi < y) (hlo : lo < 18446744073709551616) (hy : 9223372036854775808 ≤ y) (hy' : y < 18446744073709551616) (h0 : hi ≠ 0) :
    ∀ k, 40000000000 ≤ k → bits_Div64.f k (hi : Int) (lo : Int) (y : Int) = some ((Q : Int), (R : Int)) := by
  intro k hk
  have hl2 : len2 y = 64 := by
    have := len2_le (n := 64) hy'
    have h1 : 63 ≤ y.log2 := (Nat.le_log2 (by omega)).2 hy
    unfold len2 at *
    rw [if_neg (by omega)] at *
    omega
  have hsh : ∀ {x : Nat}, x < 18446744073709551616 → shl .u64 (x : Int) 0 = (x : Int) := by
    intro x hx
    have := shl_nat x 0
    rw [Nat.pow_zero, Nat.mul_one, Nat.mod_eq_of_lt hx] at this
    exact this
  have hs64 : shr .u64 (lo : Int) 64 = ((0 : Nat) : Int) := by
    have := shr_nat lo 64 hlo
    rw [Nat.div_eq_of_lt (by exact hlo)] at this
    exact this
  have hm : ∀ {x : Nat}, x < 18446744073709551616 → Go.bits .and .u64 (x : Int) 4294967295 = ((x % 4294967296 : Nat) : Int) := by
    intro x hx
    rw [show (4294967295 : Int) = ((4294967295 : Nat) : Int) from rfl, u64_and_nat _ _ hx (by decide), show (4294967295 : Nat) = 2 ^ 32 - 1 from by decide, Nat.and_two_pow_sub_one_eq_mod]
  have hh64 : hi < 18446744073709551616 := by omega
  unfold bits_Div64.f
  rw [if_neg (by omega), if_neg (by omega), if_neg (by omega), lead_nat hy', Option.bind_some, hl2]
  rw [show (((64 - 64 : Nat)) : Int) = 0 from rfl, show IntKind.u64.wrap 0 = 0 from by decide, show IntKind.u64.wrap (64 - 0) = 64 from by decide, if_pos (by decide), if_pos (by decide), hsh hy', hsh hh64, hsh hlo, hs64, u64_or_nat _ _ hh64 (by decide), Nat.or_zero, hm hy', hm hlo]
  rw [show (y : Int) / 4294967296 = ((y / 4294967296 : Nat) : Int) from by omega, show (lo : Int) / 4294967296 = ((lo / 4294967296 : Nat) : Int) from by omega, if_neg (by omega), tdiv_nat]
  have ey : y = y / 4294967296 * 4294967296 + y % 4294967296 := by omega
  have p1 : 2147483648 ≤ y / 4294967296 := by omega
  have p2 : y / 4294967296 < 4294967296 := by omega
  have p3 : y % 4294967296 < 4294967296 := by omega
  have p4 : lo / 4294967296 < 4294967296 := by omega
  have p5 : lo % 4294967296 < 4294967296 := by omega
  generalize lo / 4294967296 = d1 at *
  generalize lo % 4294967296 = d0 at *
  generalize y / 4294967296 = y1 at *
  generalize y % 4294967296 = y0 at *
  have hD := dig_start p1 p2 p3 (show hi < y1 * 4294967296 + y0 by omega) p4
  obtain ⟨hD1, hD2, hD3, hD4⟩ := hD
  have e1 : IntKind.u64.wrap (((hi / y1 : Nat)) : Int) = ((hi / y1 : Nat) : Int) := wn (by omega)
  have e2 : IntKind.u64.wrap ((hi : Int) - IntKind.u64.wrap (((hi / y1 : Nat) : Int) * (y1 : Int))) = ((hi % y1 : Nat) : Int) := by
    rw [← Int.natCast_mul]
    generalize hi / y1 * y1 = z at *
    generalize hi % y1 = z2 at *
    simp only [wrap_u64]; omega
  rw [e1, e2]
  -- behind the first digit
  have back : ∀ (k q : Nat), 20000000000 ≤ k → q = (hi * 4294967296 + d1) / y → (hi * 4294967296 + d1) % y + q * y = hi * 4294967296 + d1 →
      bits_Div64.j2 k (y : Int) 0 (y1 : Int) (y0 : Int) (hi : Int) (d1 : Int) (d0 : Int) (q : Int) = some ((Q : Int), (R : Int)) := by
    intro k q hk hq hs
    obtain ⟨k, rfl⟩ : ∃ m, k = m + 1 := ⟨k - 1, by omega⟩
    have hml := Nat.mod_lt (hi * 4294967296 + d1) (show 0 < y by omega)
    have hqb : q < 4294967296 := by
      rw [hq, Nat.div_lt_iff_lt_mul (by omega)]
      have : (hi + 1) * 4294967296 ≤ y * 4294967296 := Nat.mul_le_mul_right _ hh
      omega
    simp only [bits_Div64.j2]
    rw [if_neg (by omega)]
    rw [← hP] at hq
    rw [← hu] at hs hml
    subst hq
    rw [hQ, hR]
    clear hQ hR hP hu
    have e3 : IntKind.u64.wrap (IntKind.u64.wrap (IntKind.u64.wrap ((hi : Int) * 4294967296) + (d1 : Int)) - IntKind.u64.wrap ((q : Int) * (y : Int))) = ((u : Nat) : Int) := by
      rw [← Int.natCast_mul]
      generalize q * y = z at *
      simp only [wrap_u64]; omega
    rw [e3, tdiv_nat]
    obtain ⟨g1, g2, g3, g4⟩ := dig_start p1 p2 p3 (show u < y1 * 4294967296 + y0 by omega) p5
    have e4 : IntKind.u64.wrap (((u / y1 : Nat)) : Int) = ((u / y1 : Nat) : Int) := wn (by omega)
    have e5 : IntKind.u64.wrap ((u : Int) - IntKind.u64.wrap (((u / y1 : Nat) : Int) * (y1 : Int))) = ((u % y1 : Nat) : Int) := by
      rw [← Int.natCast_mul]
      generalize u / y1 * y1 = z at *
      generalize u % y1 = z2 at *
      simp only [wrap_u64]; omega
    rw [e4, e5]
    obtain ⟨t, ht⟩ : ∃ t : Nat, t = 4294967298 := ⟨_, rfl⟩
    exact l1_law y y1 y0 d0 q u ey p1 p2 p3 p5 (by omega) hqb t k _ _ (by omega) (by omega) ⟨g1, g2, g3, g4⟩
  -- the first digit
  have first : ∀ (t k q r : Nat), q < t → 20000000000 + 2 * t ≤ k → Dig hi d1 y1 y0 q r → bits_Div64.l0 k (y : Int) 0 (y1 : Int) (y0 : Int) (hi : Int) (d1 : Int) (d0 : Int) (q : Int) (r : Int) = some ((Q : Int), (R : Int)) := by
    intro t
    induction t with
    | zero => intro k q r h; omega
    | succ t ih =>
      intro k q r hqt hk hD
      obtain ⟨k, rfl⟩ : ∃ m, k = m + 2 := ⟨k - 2, by omega⟩
      obtain ⟨hD1, hD2, hD3, hD4⟩ := hD
      rw [l0_step k y y1 y0 hi d1 d0 q r hD3 hD2 p2 p3 p4]
      by_cases hc : 4294967296 ≤ q ∨ 4294967296 * r + d1 < q * y0
      · rw [if_pos hc]
        obtain ⟨g1, g2, g3⟩ := dig_less ⟨hD1, hD2, hD3, hD4⟩ (by omega) (by rw [← ey]; exact hh) p4 hc
        by_cases hb : 4294967296 ≤ r + y1
        · rw [if_pos hb]
          obtain ⟨z1, z2⟩ := dig_done g3 g2 (by omega) (dig_break (by omega) p3 hb)
          rw [← ey] at z1 z2
          exact back k _ (by omega) z1 z2
        · rw [if_neg hb]
          exact ih k (q - 1) (r + y1) (by omega) (by omega) ⟨g3, by omega, by omega, g2⟩
      · rw [if_neg hc]
        obtain ⟨z1, z2⟩ := dig_done hD1 hD4 (by omega) (by omega)
        rw [← ey] at z1 z2
        exact back k _ (by omega) z1 z2
  obtain ⟨t, ht⟩ : ∃ t : Nat, t = 4294967298 := ⟨_, rfl⟩
  exact first t k _ _ (by omega) (by omega) ⟨hD1, hD2, hD3, hD4⟩
theorem Div64_law (hi lo y : Nat) (hh : hi < y) (hlo : lo < 18446744073709551616) (hy : 9223372036854775808 ≤ y) (hy' : y < 18446744073709551616) (h0 : hi ≠ 0) :
    ∀ k, 40000000000 ≤ k → bits_Div64.f k (hi : Int) (lo : Int) (y : Int) = some ((((hi * 18446744073709551616 + lo) / y : Nat) : Int), (((hi * 18446744073709551616 + lo) % y : Nat) : Int)) :=
  Div64_two hi lo y _ _ _ _ rfl rfl (dig_two hi lo y (by omega)).1 (dig_two hi lo y (by omega)).2 hh hlo hy hy' h0
end Go.Proofs.Ytcobpbhmpolceaa.Pure

/-! The reference's quotients and roots are the program's. Plain laws over the printed functions. -/
namespace Go.Proofs.Ytcobpbhmpolceaa.Pure
open Go.RowKit Go.Proofs.Ytcobpbhmpolceaa.Ext Go.Proofs.Ytcobpbhmpolceaa.PE Go.Proofs.YtcobpbhmpolceaaW.PrintWords Go.Proofs.YtcobpbhmpolceaaW.PrintLast Go.Proofs.YtcobpbhmpolceaaW.PrintMore Ieee
set_option linter.unusedVariables false
set_option linter.unusedSimpArgs false

theorem len2_pos {m : Nat} (h : m ≠ 0) : len2 m = m.log2 + 1 := by unfold len2; rw [if_neg h]
theorem log2_53 {m : Nat} (h : m ≠ 0) (hm : m < 9007199254740992) : m.log2 ≤ 52 := by have := (Nat.log2_lt h).2 (show m < 2 ^ 53 from hm); omega

theorem Div_law {a b : Nat} (ha : a < 18446744073709551616) (hb : b < 18446744073709551616) : ∀ k, 40000000010 ≤ k → moidoreref03_Div.f k (a : Int) (b : Int) = some (fdiv (a : Int) (b : Int)) := by
  have hr : rinf = 9218868437227405312 := rfl
  -- what is left at the end
  have main : rg a < rinf → rg b < rinf → rg a ≠ 0 → rg b ≠ 0 → ∀ k, 40000000004 ≤ k → ((moidoreref03_open.f (a : Int)).bind fun bt201 => ((moidoreref03_open.f (b : Int)).bind fun bt206 => ((bits_LeadingZeros64.f bt201.2.2.1).bind fun t213 => ((bits_LeadingZeros64.f bt206.2.2.1).bind fun t214 => (if 0 ≤ (IntKind.u64.wrap (t213)) then (if 0 ≤ (IntKind.u64.wrap (t214)) then ((bits_Div64.f k ((shl .u64 bt201.2.2.1 (IntKind.u64.wrap (t213))) / 2) (IntKind.u64.wrap ((shl .u64 bt201.2.2.1 (IntKind.u64.wrap (t213))) * 9223372036854775808)) (shl .u64 bt206.2.2.1 (IntKind.u64.wrap (t214)))).bind fun bt215 => ((moidoreref03_rounded.f k (sg a ^^ sg b) 0 bt215.1 (wrap64 ((wrap64 ((wrap64 (bt201.2.2.2.1 - t213)) - 63)) - (wrap64 (bt206.2.2.2.1 - t214)))) (bt215.2 != 0)).bind fun t217 => (some t217))) else (none)) else (none)))))) = some (fr (double.div a b)) := by
    intro fa fb za zb
    obtain ⟨m, e, o1, h2, hm, h4, he, -⟩ := open_nat ha fa
    obtain ⟨n, f, o2, h5, hn, h7, hf, -⟩ := open_nat hb fb
    have m0 : m ≠ 0 := fun h => za (h4.1 h)
    have n0 : n ≠ 0 := fun h => zb (h7.1 h)
    have lm := log2_53 m0 hm
    have ln := log2_53 n0 hn
    have hm1 := (Nat.log2_eq_iff m0).1 rfl
    have hn1 := (Nat.log2_eq_iff n0).1 rfl
    have em : m * 2 ^ (63 - m.log2) < 18446744073709551616 := by
      have := (Nat.mul_lt_mul_right (Nat.two_pow_pos (63 - m.log2))).2 hm1.2
      rw [← Nat.pow_add, show m.log2 + 1 + (63 - m.log2) = 64 from by omega] at this
      exact this
    have en : n * 2 ^ (63 - n.log2) < 18446744073709551616 := by
      have := (Nat.mul_lt_mul_right (Nat.two_pow_pos (63 - n.log2))).2 hn1.2
      rw [← Nat.pow_add, show n.log2 + 1 + (63 - n.log2) = 64 from by omega] at this
      exact this
    have em2 : 9223372036854775808 ≤ m * 2 ^ (63 - m.log2) := by
      have := Nat.mul_le_mul_right (2 ^ (63 - m.log2)) hm1.1
      rw [← Nat.pow_add, show m.log2 + (63 - m.log2) = 63 from by omega] at this
      exact this
    have en2 : 9223372036854775808 ≤ n * 2 ^ (63 - n.log2) := by
      have := Nat.mul_le_mul_right (2 ^ (63 - n.log2)) hn1.1
      rw [← Nat.pow_add, show n.log2 + (63 - n.log2) = 63 from by omega] at this
      exact this
    -- the numbers that are divided
    have q1 : (m * 2 ^ (63 - m.log2) / 2) * 18446744073709551616 + m * 2 ^ (63 - m.log2) * 9223372036854775808 % 18446744073709551616 = m * 2 ^ (63 - m.log2 + 63) := by
      rw [Nat.pow_add, ← Nat.mul_assoc, show (2 : Nat) ^ 63 = 9223372036854775808 from by decide]
      generalize m * 2 ^ (63 - m.log2) = x
      omega
    have hq : m * 2 ^ (63 - m.log2 + 63) / (n * 2 ^ (63 - n.log2)) = m * 2 ^ (63 + n.log2 - m.log2) / n ∧ m * 2 ^ (63 - m.log2 + 63) % (n * 2 ^ (63 - n.log2)) = m * 2 ^ (63 + n.log2 - m.log2) % n * 2 ^ (63 - n.log2) := by
      have : m * 2 ^ (63 - m.log2 + 63) = m * 2 ^ (63 + n.log2 - m.log2) * 2 ^ (63 - n.log2) := by
        rw [Nat.mul_assoc, ← Nat.pow_add]; congr 2; omega
      rw [this, Nat.mul_div_mul_right _ _ (Nat.two_pow_pos _), Nat.mul_mod_mul_right]
      exact ⟨rfl, rfl⟩
    have hqlt : m * 2 ^ (63 + n.log2 - m.log2) / n < 18446744073709551616 := by
      rw [← hq.1, ← q1, Nat.div_lt_iff_lt_mul (by omega)]
      have hlt : m * 2 ^ (63 - m.log2) / 2 < n * 2 ^ (63 - n.log2) := by omega
      have h3 : (m * 2 ^ (63 - m.log2) / 2 + 1) * 18446744073709551616 ≤ n * 2 ^ (63 - n.log2) * 18446744073709551616 := Nat.mul_le_mul_right _ hlt
      omega
    have hqlow : 9007199254740992 ≤ m * 2 ^ (63 + n.log2 - m.log2) / n := quot_low m0 n0 _ (by omega)
    have hK := Div64_law (m * 2 ^ (63 - m.log2) / 2) (m * 2 ^ (63 - m.log2) * 9223372036854775808 % 18446744073709551616) (n * 2 ^ (63 - n.log2)) (by omega) (by omega) en2 en (by omega)
    intro k hk
    rw [o1, Option.bind_some, o2, Option.bind_some]
    show ((bits_LeadingZeros64.f (m : Int)).bind _) = _
    rw [lead_nat (by omega), Option.bind_some]
    show ((bits_LeadingZeros64.f (n : Int)).bind _) = _
    rw [lead_nat (by omega), Option.bind_some, len2_pos m0, len2_pos n0]
    rw [wn (x := 64 - (m.log2 + 1)) (by omega), wn (x := 64 - (n.log2 + 1)) (by omega), if_pos (by omega), if_pos (by omega)]
    show ((bits_Div64.f k (shl .u64 (m : Int) ((64 - (m.log2 + 1) : Nat) : Int) / 2) (IntKind.u64.wrap (shl .u64 (m : Int) ((64 - (m.log2 + 1) : Nat) : Int) * 9223372036854775808)) (shl .u64 (n : Int) ((64 - (n.log2 + 1) : Nat) : Int))).bind fun bt215 => ((moidoreref03_rounded.f k (sg a ^^ sg b) 0 bt215.1 (wrap64 ((wrap64 ((wrap64 (-1074 + (e : Int) - ((64 - (m.log2 + 1) : Nat) : Int))) - 63)) - (wrap64 (-1074 + (f : Int) - ((64 - (n.log2 + 1) : Nat) : Int))))) (bt215.2 != 0)).bind fun t217 => (some t217))) = _
    rw [show 64 - (m.log2 + 1) = 63 - m.log2 from by omega, show 64 - (n.log2 + 1) = 63 - n.log2 from by omega, shl_nat, shl_nat, Nat.mod_eq_of_lt em, Nat.mod_eq_of_lt en]
    have a1 : ((m * 2 ^ (63 - m.log2) : Nat) : Int) / 2 = ((m * 2 ^ (63 - m.log2) / 2 : Nat) : Int) := by
      generalize m * 2 ^ (63 - m.log2) = x
      omega
    have a2 : IntKind.u64.wrap (((m * 2 ^ (63 - m.log2) : Nat) : Int) * 9223372036854775808) = ((m * 2 ^ (63 - m.log2) * 9223372036854775808 % 18446744073709551616 : Nat) : Int) := by
      rw [wrap_u64]
      generalize m * 2 ^ (63 - m.log2) = x
      omega
    rw [a1, a2, hK k (by omega), Option.bind_some, q1, hq.1, hq.2]
    rw [w64_id (x := -1074 + (e : Int) - ((63 - m.log2 : Nat) : Int)) (by omega) (by omega), w64_id (x := -1074 + (e : Int) - ((63 - m.log2 : Nat) : Int) - 63) (by omega) (by omega), w64_id (x := -1074 + (f : Int) - ((63 - n.log2 : Nat) : Int)) (by omega) (by omega), w64_id (by omega) (by omega)]
    have hst : ((((m * 2 ^ (63 + n.log2 - m.log2) % n * 2 ^ (63 - n.log2) : Nat)) : Int) != 0) = (m * 2 ^ (63 + n.log2 - m.log2) % n != 0) := by
      have hp : 0 < 2 ^ (63 - n.log2) := Nat.two_pow_pos _
      generalize m * 2 ^ (63 + n.log2 - m.log2) % n = z
      rw [Bool.eq_iff_iff, bne_iff_ne, bne_iff_ne, ne_eq, ne_eq]
      have : z * 2 ^ (63 - n.log2) = 0 ↔ z = 0 := ⟨fun h => by rcases Nat.mul_eq_zero.1 h with h | h <;> omega, fun h => by rw [h, Nat.zero_mul]⟩
      rw [← this]; omega
    show (moidoreref03_rounded.f k (sg a ^^ sg b) 0 ((m * 2 ^ (63 + n.log2 - m.log2) / n : Nat) : Int) _ ((((m * 2 ^ (63 + n.log2 - m.log2) % n * 2 ^ (63 - n.log2) : Nat)) : Int) != 0)).bind _ = _
    rw [hst]
    obtain ⟨k, rfl⟩ : ∃ j, k = j + 4 := ⟨k - 4, by omega⟩
    have hR := rounded_nat k (sg a ^^ sg b) 0 (m * 2 ^ (63 + n.log2 - m.log2) / n) (-1074 + (e : Int) - ((63 - m.log2 : Nat) : Int) - 63 - (-1074 + (f : Int) - ((63 - n.log2 : Nat) : Int))) (m * 2 ^ (63 + n.log2 - m.log2) % n != 0) (by decide) hqlt (by omega) (by omega) (fun _ => by omega)
    rw [Nat.zero_mul, Nat.zero_add] at hR
    rw [show (0 : Int) = ((0 : Nat) : Int) from rfl, hR, Option.bind_some]
    unfold Format.div
    rw [h2, h5, show double.fractionBits + 2 = 54 from rfl, fr_word (div_spec _ _ _ _ _ _ m0 n0 lm (63 + n.log2 - m.log2) (by omega))]
    unfold rnd
    rw [show -1074 + (e : Int) - ((63 - m.log2 : Nat) : Int) - 63 - (-1074 + (f : Int) - ((63 - n.log2 : Nat) : Int)) - 1 = -1074 + (e : Int) - (-1074 + (f : Int)) - ((63 + n.log2 - m.log2 : Nat) : Int) - 1 from by omega]
  unfold fdiv
  rw [Int.toNat_natCast, Int.toNat_natCast]
  have fin : ∀ {P : Nat → Option Int} {r : Int}, (∀ k, P (k + 2) = some r) → ∀ k, 40000000010 ≤ k → P k = some r := fun h k hk => by obtain ⟨j, rfl⟩ : ∃ j, k = j + 2 := ⟨k - 2, by omega⟩; exact h j
  have hj : ∀ k (x25 : Bool), moidoreref03_Div.j0 (k + 1) (a : Int) (b : Int) (sg a ^^ sg b) ((rg a : Nat) : Int) ((rg b : Nat) : Int) x25 =
      if x25 = true then (some 9221120237041090560) else (if ((rg a : Nat) : Int) = 9218868437227405312 then (moidoreref03_Div.j1 k (a : Int) (b : Int) (sg a ^^ sg b) ((rg a : Nat) : Int) ((rg b : Nat) : Int) true) else (moidoreref03_Div.j1 k (a : Int) (b : Int) (sg a ^^ sg b) ((rg a : Nat) : Int) ((rg b : Nat) : Int) (((rg b : Nat) : Int) == 0))) := by
    intro k x25
    simp only [moidoreref03_Div.j0]
  have hf : ∀ k, moidoreref03_Div.f k (a : Int) (b : Int) = moidoreref03_Div.j0 k (a : Int) (b : Int) (sg a ^^ sg b) ((rg a : Nat) : Int) ((rg b : Nat) : Int) (decide (rinf < rg a ∨ rinf < rg b ∨ (rg a = rinf ∧ rg b = rinf) ∨ (rg a = 0 ∧ rg b = 0))) := by
    intro k
    unfold moidoreref03_Div.f
    rw [none_nat ha, none_nat hb, bne_top ha hb, top_off ha, top_off hb, Option.bind_some]
    by_cases na : rinf < rg a
    · rw [if_pos (by simpa using na)]
      congr 1; symm; simp [na]
    rw [if_neg (by simpa using na), Option.bind_some]
    by_cases nb : rinf < rg b
    · rw [if_pos (by simpa using nb)]
      congr 1; symm; simp [nb]
    rw [if_neg (by simpa using nb)]
    by_cases ia : rg a = rinf
    · rw [if_pos (by omega)]
      by_cases ib : rg b = rinf
      · rw [if_pos (by omega)]
        congr 1; symm; simp [ia, ib]
      · rw [if_neg (by omega), if_neg (by omega)]
        congr 1; symm; simp [na, nb, ib]; omega
    · rw [if_neg (by omega)]
      by_cases za : rg a = 0
      · rw [if_pos (by omega)]
        congr 1
        rw [Bool.eq_iff_iff, beq_iff_eq, decide_eq_true_eq]; omega
      · rw [if_neg (by omega)]
        congr 1; symm; simp only [decide_eq_false_iff_not]; omega
  simp only [hf]
  by_cases na : rinf < rg a
  · refine fin fun k => ?_
    rw [hj, if_pos (by simp [na])]
    unfold Format.div; rw [read_nan na]; rfl
  by_cases nb : rinf < rg b
  · refine fin fun k => ?_
    rw [hj, if_pos (by simp [nb])]
    unfold Format.div; rw [read_nan nb]; cases double.read a <;> rfl
  by_cases ia : rg a = rinf
  · by_cases ib : rg b = rinf
    · refine fin fun k => ?_
      rw [hj, if_pos (by simp [ia, ib])]
      unfold Format.div; rw [read_inf ia, read_inf ib]; rfl
    · refine fin fun k => ?_
      rw [hj, if_neg (by simp only [decide_eq_true_eq]; omega), if_pos (by omega)]
      simp only [moidoreref03_Div.j1, if_true]
      rw [inf_signed, Option.bind_some]
      obtain ⟨n, f, -, h2, -⟩ := open_nat hb (by omega)
      unfold Format.div; rw [read_inf ia, h2]; rfl
  by_cases ib : rg b = rinf
  · refine fin fun k => ?_
    rw [hj, if_neg (by simp only [decide_eq_true_eq]; omega), if_neg (by omega), show (((rg b : Nat) : Int) == 0) = false from by rw [beq_eq_false_iff_ne]; omega]
    simp only [moidoreref03_Div.j1, Bool.false_eq_true, if_false]
    rw [if_pos (by omega), zero_signed, Option.bind_some]
    obtain ⟨m, e, -, h2, -⟩ := open_nat ha (by omega)
    unfold Format.div; rw [read_inf ib, h2]
    rw [show double.fractionBits + 2 = 54 from rfl]
    rw [fr_word (show ((Datum.number (sg a) m (-1074 + (e : Int))).quotient 54 (.infinity (sg b))).map double.write = some (double.word (sg a ^^ sg b) 0) from by simp only [Datum.quotient, Option.map_some, write_number]; simp [RP])]
  by_cases za : rg a = 0
  · by_cases zb : rg b = 0
    · refine fin fun k => ?_
      rw [hj, if_pos (by simp [za, zb])]
      obtain ⟨m, e, -, h2, -, h4, -⟩ := open_nat ha (by omega)
      obtain ⟨n, f, -, h5, -, h7, -⟩ := open_nat hb (by omega)
      unfold Format.div; rw [h2, h5, h4.2 za, h7.2 zb]; rfl
    · refine fin fun k => ?_
      rw [hj, if_neg (by simp only [decide_eq_true_eq]; omega), if_neg (by omega), show (((rg b : Nat) : Int) == 0) = false from by rw [beq_eq_false_iff_ne]; omega]
      simp only [moidoreref03_Div.j1, Bool.false_eq_true, if_false]
      rw [if_neg (by omega), if_pos (by omega), zero_signed, Option.bind_some]
      obtain ⟨m, e, -, h2, -, h4, -⟩ := open_nat ha (by omega)
      obtain ⟨n, f, -, h5, -, h7, -⟩ := open_nat hb (by omega)
      have n0 : n ≠ 0 := fun h => zb (h7.1 h)
      unfold Format.div; rw [h2, h5, h4.2 za]
      rw [show double.fractionBits + 2 = 54 from rfl]
      rw [fr_word (show ((Datum.number (sg a) 0 (-1074 + (e : Int))).quotient 54 (.number (sg b) n (-1074 + (f : Int)))).map double.write = some (double.word (sg a ^^ sg b) 0) from by simp only [Datum.quotient, n0, if_false, Option.map_some, write_number, Nat.shiftLeft_eq, Nat.zero_mul, Nat.zero_div, Nat.zero_mod]; simp [RP])]
  by_cases zb : rg b = 0
  · refine fin fun k => ?_
    rw [hj, if_neg (by simp only [decide_eq_true_eq]; omega), if_neg (by omega), show (((rg b : Nat) : Int) == 0) = true from by rw [beq_iff_eq]; omega]
    simp only [moidoreref03_Div.j1, if_true]
    rw [inf_signed, Option.bind_some]
    obtain ⟨m, e, -, h2, -, h4, -⟩ := open_nat ha (by omega)
    obtain ⟨n, f, -, h5, -, h7, -⟩ := open_nat hb (by omega)
    have m0 : m ≠ 0 := fun h => za (h4.1 h)
    unfold Format.div; rw [h2, h5, h7.2 zb]
    simp only [Datum.quotient, if_true, m0, if_false]; rfl
  have hK := main (by omega) (by omega) za zb
  intro k hk
  obtain ⟨k, rfl⟩ : ∃ j, k = j + 2 := ⟨k - 2, by omega⟩
  rw [hj, if_neg (by simp only [decide_eq_true_eq]; omega), if_neg (by omega), show (((rg b : Nat) : Int) == 0) = false from by rw [beq_eq_false_iff_ne]; omega]
  simp only [moidoreref03_Div.j1, Bool.false_eq_true, if_false]
  rw [if_neg (by omega), if_neg (by omega)]
  exact hK k (by omega)
end Go.Proofs.Ytcobpbhmpolceaa.Pure

/-! The reference's roots, whole numbers, orders are the program's. Plain laws over the printed functions. -/
namespace Go.Proofs.Ytcobpbhmpolceaa.Pure
open Go.RowKit Go.Proofs.Ytcobpbhmpolceaa.Ext Go.Proofs.Ytcobpbhmpolceaa.PE Go.Proofs.YtcobpbhmpolceaaW.PrintWords Go.Proofs.YtcobpbhmpolceaaW.PrintLast Go.Proofs.YtcobpbhmpolceaaW.PrintMore Ieee
set_option linter.unusedVariables false
set_option linter.unusedSimpArgs false

/-! ### roots -/
theorem shl_one {n : Nat} (h : n < 64) : shl .u64 1 (n : Int) = ((2 ^ n : Nat) : Int) := by
  have := shl_nat 1 n
  rw [Nat.one_mul, Nat.mod_eq_of_lt (Nat.lt_of_le_of_lt (Nat.pow_le_pow_right (by decide) (show n ≤ 63 by omega)) (by decide))] at this
  exact this

/-- The root, digit by digit. -/
theorem root_loop (N : Nat) (hN : N < 340282366920938463463374607431768211456) (x4 : Int) (g0 : Bool) (g1 g2 E : Int) (gm : Bool) (k : Nat) :
    ∀ (j r : Nat), j ≤ 64 → r % 2 ^ j = 0 → r < 18446744073709551616 → r * r ≤ N → N < (r + 2 ^ j) * (r + 2 ^ j) → ∃ R, IsRoot N R ∧ R < 18446744073709551616 ∧
      moidoreref03_Sqrt.l0 (k + 1 + j) x4 ((N / 18446744073709551616 : Nat) : Int) ((N % 18446744073709551616 : Nat) : Int) (r : Int) ((j : Int) - 1) g0 g1 g2 E gm =
        moidoreref03_Sqrt.l0 (k + 1) x4 ((N / 18446744073709551616 : Nat) : Int) ((N % 18446744073709551616 : Nat) : Int) (R : Int) (-1) g0 g1 g2 E gm := by
  intro j
  induction j with
  | zero => intro r _ _ hr h1 h2; exact ⟨r, ⟨h1, h2⟩, hr, rfl⟩
  | succ j ih =>
    intro r hj hmod hr h1 h2
    have hp : 2 ^ (j + 1) = 2 * 2 ^ j := by rw [Nat.pow_succ]; omega
    have hpj : 0 < 2 ^ j := Nat.two_pow_pos j
    have hmod0 : r % 2 ^ j = 0 := Nat.mod_eq_zero_of_dvd (Nat.dvd_trans (Nat.pow_dvd_pow 2 (Nat.le_succ j)) (Nat.dvd_of_mod_eq_zero hmod))
    have htry : r + 2 ^ j < 18446744073709551616 := by
      have hd : 2 ^ (j + 1) ∣ r := Nat.dvd_of_mod_eq_zero hmod
      have hd2 : 2 ^ (j + 1) ∣ 18446744073709551616 := by
        rw [show (18446744073709551616 : Nat) = 2 ^ 64 from by decide]; exact Nat.pow_dvd_pow 2 hj
      obtain ⟨c, hc⟩ := hd
      obtain ⟨d, hd⟩ := hd2
      have hcd : c + 1 ≤ d := by
        have : 2 ^ (j + 1) * c < 2 ^ (j + 1) * d := by rw [← hc, ← hd]; exact hr
        exact Nat.lt_of_mul_lt_mul_left this
      have := Nat.mul_le_mul_left (2 ^ (j + 1)) hcd
      rw [Nat.mul_add, Nat.mul_one, ← hc, ← hd] at this
      omega
    have hbit : 2 ^ j < 18446744073709551616 := by omega
    have hor : Go.bits .or .u64 (r : Int) (shl .u64 1 (IntKind.u64.wrap (((j + 1 : Nat) : Int) - 1))) = ((r + 2 ^ j : Nat) : Int) := by
      rw [show (((j + 1 : Nat) : Int) - 1) = (j : Int) from by omega, wn (by omega), shl_one (by omega), u64_or_nat _ _ hr hbit]
      congr 1
      exact Go.nat_join (j + 1) _ _ hmod (by omega)
    have hsq : (r + 2 ^ j) * (r + 2 ^ j) < 340282366920938463463374607431768211456 := by
      have := Nat.mul_lt_mul_of_lt_of_lt htry htry
      exact this
    rw [show k + 1 + (j + 1) = (k + 1 + j) + 1 from rfl]
    have step : moidoreref03_Sqrt.l0 (k + 1 + j + 1) x4 ((N / 18446744073709551616 : Nat) : Int) ((N % 18446744073709551616 : Nat) : Int) (r : Int) (((j + 1 : Nat) : Int) - 1) g0 g1 g2 E gm =
        moidoreref03_Sqrt.l0 (k + 1 + j) x4 ((N / 18446744073709551616 : Nat) : Int) ((N % 18446744073709551616 : Nat) : Int) ((if (r + 2 ^ j) * (r + 2 ^ j) ≤ N then r + 2 ^ j else r : Nat) : Int) ((j : Int) - 1) g0 g1 g2 E gm := by
      simp only [moidoreref03_Sqrt.l0]
      rw [if_pos (by omega), if_pos (by rw [show (((j + 1 : Nat) : Int) - 1) = (j : Int) from by omega, wn (by omega)]; omega), hor, hi_lo _ _ htry htry]
      rw [Option.bind_some, w64_id (x := ((j + 1 : Nat) : Int) - 1 - 1) (by omega) (by omega), show ((j + 1 : Nat) : Int) - 1 - 1 = (j : Int) - 1 from by omega]
      generalize (r + 2 ^ j) * (r + 2 ^ j) = z at *
      by_cases c : z ≤ N
      · rw [if_pos c]
        by_cases c1 : z / 18446744073709551616 < N / 18446744073709551616
        · rw [if_pos (by show ((z / 18446744073709551616 : Nat) : Int) < _; omega)]
        · rw [if_neg (by show ¬ ((z / 18446744073709551616 : Nat) : Int) < _; omega), if_pos (by show ((z / 18446744073709551616 : Nat) : Int) = _; omega), if_pos (by show ((z % 18446744073709551616 : Nat) : Int) ≤ _; omega)]
      · rw [if_neg c, if_neg (by show ¬ ((z / 18446744073709551616 : Nat) : Int) < _; omega)]
        by_cases c2 : z / 18446744073709551616 = N / 18446744073709551616
        · rw [if_pos (by show ((z / 18446744073709551616 : Nat) : Int) = _; omega), if_neg (by show ¬ ((z % 18446744073709551616 : Nat) : Int) ≤ _; omega)]
        · rw [if_neg (by show ¬ ((z / 18446744073709551616 : Nat) : Int) = _; omega)]
    rw [step]
    by_cases c : (r + 2 ^ j) * (r + 2 ^ j) ≤ N
    · rw [if_pos c]
      refine ih (r + 2 ^ j) (by omega) ?_ htry c ?_
      · rw [Nat.add_mod_right]; exact hmod0
      · rw [Nat.add_assoc, ← Nat.two_mul, ← hp]; exact h2
    · rw [if_neg c]
      exact ih r (by omega) hmod0 hr h1 (by omega)

theorem tmod2 (x : Int) : Int.tmod x 2 = 0 ↔ x % 2 = 0 := ⟨fun h => Int.emod_eq_zero_of_dvd (Int.dvd_of_tmod_eq_zero h), fun h => Int.tmod_eq_zero_of_dvd (Int.dvd_of_emod_eq_zero h)⟩
theorem l0_end (k : Nat) (x4 x5 x6 x7 g1 g2 E : Int) (g0 gm : Bool) : moidoreref03_Sqrt.l0 (k + 1) x4 x5 x6 x7 (-1) g0 g1 g2 E gm =
    (bits_Mul64.f x7 x7).bind fun bt230 => (if bt230.1 = x5 then ((moidoreref03_rounded.f k false 0 x7 (wrap64 (Int.tdiv (wrap64 (E - x4)) 2)) (bt230.2 != x6)).bind fun t232 => (some t232)) else ((moidoreref03_rounded.f k false 0 x7 (wrap64 (Int.tdiv (wrap64 (E - x4)) 2)) true).bind fun t233 => (some t233))) := by
  simp only [moidoreref03_Sqrt.l0]
  rw [if_neg (by decide)]

theorem Sqrt_law {a : Nat} (ha : a < 18446744073709551616) : ∀ k, 200 ≤ k → moidoreref03_Sqrt.f k (a : Int) = some (fsqrt (a : Int)) := by
  have hr : rinf = 9218868437227405312 := rfl
  intro k hk
  obtain ⟨k, rfl⟩ : ∃ j, k = j + 100 := ⟨k - 100, by omega⟩
  unfold fsqrt
  rw [Int.toNat_natCast]
  have hs := sg_ge ha
  have hrg : rg a = a % 9223372036854775808 := rfl
  have hf : moidoreref03_Sqrt.f (k + 100) (a : Int) = moidoreref03_Sqrt.j0 (k + 100) (a : Int) (decide (rinf < rg a ∨ (sg a = true ∧ rg a ≠ 0))) := by
    unfold moidoreref03_Sqrt.f
    rw [none_nat ha, Option.bind_some]
    by_cases na : rinf < rg a
    · rw [if_pos (by simpa using na)]
      congr 1; symm; simp [na]
    · rw [if_neg (by simpa using na)]
      congr 1
      rw [decide_eq_decide]
      have : sg a = true ↔ 9223372036854775808 ≤ a := by unfold sg; rw [beq_iff_eq]; omega
      rw [this]
      omega
  rw [hf]
  simp only [moidoreref03_Sqrt.j0]
  by_cases na : rinf < rg a
  · rw [if_pos (by simp [na])]
    unfold Format.sqrt; rw [read_nan na]; rfl
  by_cases ia : rg a = rinf
  · unfold Format.sqrt; rw [read_inf ia]
    cases h : sg a
    · rw [if_neg (by simp only [h, decide_eq_true_eq, Bool.false_eq_true, false_and, or_false]; exact na), top_off ha, if_neg (by omega)]
      have ea : a = rinf := by have := word_self ha; rw [double_word, h, ia] at this; simpa using this.symm
      rw [if_pos (by omega), ea]; rfl
    · rw [if_pos (by simp only [h, decide_eq_true_eq, true_and]; omega)]; rfl
  obtain ⟨m, e, o1, h2, hm, h4, he, -⟩ := open_nat ha (by omega)
  by_cases za : rg a = 0
  · rw [if_neg (by simp only [decide_eq_true_eq]; omega), top_off ha, if_pos (by omega)]
    unfold Format.sqrt; rw [h2, h4.2 za]
    rw [fr_word (show ((Datum.number (sg a) 0 (-1074 + (e : Int))).root (double.fractionBits + 2)).map double.write = some a from by
      simp only [Datum.root, if_true, Option.map_some, write_number]
      rw [show RP 0 (-1074 + (e : Int)) = 0 from by simp [RP]]
      have := word_self ha; rw [za] at this; rw [this])]
  have m0 : m ≠ 0 := fun h => za (h4.1 h)
  have lm := log2_53 m0 hm
  cases h : sg a
  · rw [if_neg (by simp only [h, decide_eq_true_eq, Bool.false_eq_true, false_and, or_false]; exact na), top_off ha, if_neg (by omega), if_neg (by unfold rg at ia; omega), o1, Option.bind_some]
    show ((moidoreref03_length.f 0 (m : Int)).bind _) = _
    have hl := length_nat (hi := 0) (lo := m) (by decide) (by omega)
    rw [Nat.zero_mul, Nat.zero_add] at hl
    rw [show (0 : Int) = ((0 : Nat) : Int) from rfl, hl, Option.bind_some, len2_pos m0]
    rw [w64_id (x := 126 - ((m.log2 + 1 : Nat) : Int)) (by omega) (by omega)]
    -- the even place
    have fin : ∀ T : Nat, 109 - m.log2 ≤ T → T ≤ 125 - m.log2 → (-1074 + (e : Int) - T) % 2 = 0 → moidoreref03_Sqrt.j1 (k + 99) (T : Int) (sg a) 0 (m : Int) (-1074 + (e : Int)) false = some (fr (double.sqrt a)) := by
      intro T hT hT' hev
      have hm1 := (Nat.log2_eq_iff m0).1 rfl
      have hmT : m * 2 ^ T < 85070591730234615865843651857942052864 := by
        have := (Nat.mul_lt_mul_right (Nat.two_pow_pos T)).2 hm1.2
        rw [← Nat.pow_add] at this
        exact Nat.lt_of_lt_of_le this (Nat.pow_le_pow_right (n := 2) (j := 126) (by decide) (by omega))
      simp only [moidoreref03_Sqrt.j1]
      rw [left_nat m T (by omega) (by omega) (by omega), Option.bind_some]
      obtain ⟨R, hR, hR64, hloop⟩ := root_loop (m * 2 ^ T) (by omega) (T : Int) (sg a) 0 (m : Int) (-1074 + (e : Int)) false (k + 33) 64 0 (by omega) (Nat.zero_mod _) (by decide) (by omega) (by rw [Nat.zero_add, ← Nat.pow_add]; exact Nat.lt_of_lt_of_le hmT (by decide))
      rw [show k + 33 + 1 + 64 = k + 98 from rfl, show ((64 : Nat) : Int) - 1 = 63 from rfl, show ((0 : Nat) : Int) = 0 from rfl] at hloop
      show moidoreref03_Sqrt.l0 (k + 98) (T : Int) ((m * 2 ^ T / 18446744073709551616 : Nat) : Int) ((m * 2 ^ T % 18446744073709551616 : Nat) : Int) 0 63 (sg a) 0 (m : Int) (-1074 + (e : Int)) false = _
      rw [hloop]
      rw [l0_end, hi_lo R R hR64 hR64, Option.bind_some, w64_id (x := -1074 + (e : Int) - (T : Int)) (by omega) (by omega)]
      have htd : Int.tdiv (-1074 + (e : Int) - (T : Int)) 2 = (-1074 + (e : Int) - (T : Int)) / 2 := Int.tdiv_eq_ediv_of_dvd (Int.dvd_of_emod_eq_zero hev)
      rw [htd, w64_id (x := (-1074 + (e : Int) - (T : Int)) / 2) (by omega) (by omega)]
      have hlowR : 9007199254740992 ≤ R := by
        have a2 : 2 ^ 109 ≤ m * 2 ^ T := by
          refine Nat.le_trans (Nat.pow_le_pow_right (by decide) (show 109 ≤ m.log2 + T by omega)) ?_
          rw [Nat.pow_add]; exact Nat.mul_le_mul_right _ hm1.1
        rcases Nat.lt_or_ge R 9007199254740992 with c | c
        · have := Nat.mul_le_mul (show R + 1 ≤ 9007199254740992 from c) (show R + 1 ≤ 9007199254740992 from c)
          have := hR.2
          rw [show (2 : Nat) ^ 109 = 649037107316853453566312041152512 from by decide] at a2
          omega
        · exact c
      have hRR := rounded_nat (k + 29) false 0 R ((-1074 + (e : Int) - (T : Int)) / 2) (R * R != m * 2 ^ T) (by decide) hR64 (by omega) (by omega) (fun _ => by omega)
      rw [Nat.zero_mul, Nat.zero_add] at hRR
      rw [show ((0 : Nat) : Int) = 0 from rfl, show k + 29 + 4 = k + 33 from rfl] at hRR
      have hRm : R * R ≤ m * 2 ^ T := hR.1
      have go : ∀ b : Bool, b = (R * R != m * 2 ^ T) → ((moidoreref03_rounded.f (k + 33) false 0 (R : Int) ((-1074 + (e : Int) - (T : Int)) / 2) b).bind fun t => some t) = some (fr (double.sqrt a)) := by
        intro b hb
        rw [hb, hRR, Option.bind_some]
        unfold Format.sqrt
        rw [h2, h, show double.fractionBits + 2 = 54 from rfl, fr_word (root_spec2 m _ m0 lm T R hT hev hR)]
        unfold rnd; rfl
      show (if ((R * R / 18446744073709551616 : Nat) : Int) = ((m * 2 ^ T / 18446744073709551616 : Nat) : Int) then ((moidoreref03_rounded.f (k + 33) false 0 (R : Int) ((-1074 + (e : Int) - (T : Int)) / 2) (((R * R % 18446744073709551616 : Nat) : Int) != ((m * 2 ^ T % 18446744073709551616 : Nat) : Int))).bind fun t => some t) else ((moidoreref03_rounded.f (k + 33) false 0 (R : Int) ((-1074 + (e : Int) - (T : Int)) / 2) true).bind fun t => some t)) = _
      clear hloop hRR hR hlowR
      generalize R * R = x at *
      generalize m * 2 ^ T = y at *
      by_cases c : x / 18446744073709551616 = y / 18446744073709551616
      · rw [if_pos (by omega)]
        apply go
        rw [Bool.eq_iff_iff, bne_iff_ne, bne_iff_ne]; omega
      · rw [if_neg (by omega)]
        apply go
        symm; rw [bne_iff_ne]; rintro rfl; exact c rfl
    by_cases hev : (-1074 + (e : Int) - (126 - ((m.log2 + 1 : Nat) : Int))) % 2 = 0
    · have htm : Int.tmod (wrap64 (-1074 + (e : Int) - (126 - ((m.log2 + 1 : Nat) : Int)))) 2 = 0 := by
        rw [w64_id (by omega) (by omega), tmod2]; exact hev
      show (if Int.tmod (wrap64 (-1074 + (e : Int) - (126 - ((m.log2 + 1 : Nat) : Int)))) 2 = 0 then moidoreref03_Sqrt.j1 (k + 99) (126 - ((m.log2 + 1 : Nat) : Int)) (sg a) 0 (m : Int) (-1074 + (e : Int)) false else _) = _
      rw [if_pos htm, show (126 - ((m.log2 + 1 : Nat) : Int)) = ((125 - m.log2 : Nat) : Int) from by omega]
      exact fin _ (by omega) (by omega) (by omega)
    · have htm : ¬ Int.tmod (wrap64 (-1074 + (e : Int) - (126 - ((m.log2 + 1 : Nat) : Int)))) 2 = 0 := by
        rw [w64_id (by omega) (by omega), tmod2]; exact hev
      show (if Int.tmod (wrap64 (-1074 + (e : Int) - (126 - ((m.log2 + 1 : Nat) : Int)))) 2 = 0 then _ else moidoreref03_Sqrt.j1 (k + 99) (wrap64 (126 - ((m.log2 + 1 : Nat) : Int) - 1)) (sg a) 0 (m : Int) (-1074 + (e : Int)) false) = _
      rw [if_neg htm, w64_id (by omega) (by omega), show (126 - ((m.log2 + 1 : Nat) : Int) - 1) = ((124 - m.log2 : Nat) : Int) from by omega]
      exact fin _ (by omega) (by omega) (by omega)
  · rw [if_pos (by simp only [h, decide_eq_true_eq, true_and]; omega)]
    unfold Format.sqrt; rw [h2, h]
    simp only [Datum.root, m0, if_false, if_true]; rfl
end Go.Proofs.Ytcobpbhmpolceaa.Pure
