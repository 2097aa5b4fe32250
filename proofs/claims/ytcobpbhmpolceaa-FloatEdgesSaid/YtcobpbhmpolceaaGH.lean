import Derived.Test.YtcobpbhmpolceaaGC
import Derived.Test.YtcobpbhmpolceaaPE7
import Derived.Test.YtcobpbhmpolceaaFK
/-! The rest of what the reference tells is what the program tells. Plain laws over the printed functions. -/
namespace Go.Proofs.Ytcobpbhmpolceaa.Pure
open Go.RowKit Go.Proofs.Ytcobpbhmpolceaa.Ext Go.Proofs.Ytcobpbhmpolceaa.PE Go.Proofs.YtcobpbhmpolceaaW.PrintWords Go.Proofs.YtcobpbhmpolceaaW.PrintLast Go.Proofs.YtcobpbhmpolceaaW.PrintMore Ieee
set_option exponentiation.threshold 3000
set_option linter.unusedVariables false
set_option linter.unusedSimpArgs false

theorem Right_law {a : Nat} (ha : a < 18446744073709551616) : moidoreref03_Right.f (a : Int) = some (fbits a == (a : Int)) := by
  unfold moidoreref03_Right.f
  rw [none_nat ha, Option.bind_some]
  by_cases na : rinf < rg a
  · rw [if_pos (by simpa using na), fbits_nan na]
    congr 1; rw [Bool.eq_iff_iff, beq_iff_eq, beq_iff_eq]; exact eq_comm
  · rw [if_neg (by simpa using na), fbits_ok (by omega)]; simp
theorem Canon_law {a : Nat} (ha : a < 18446744073709551616) : moidoreref03_Canon.f (a : Int) = some (fbits a) := by
  unfold moidoreref03_Canon.f
  rw [none_nat ha, Option.bind_some]
  by_cases na : rinf < rg a
  · rw [if_pos (by simpa using na), fbits_nan na]
  · rw [if_neg (by simpa using na), fbits_ok (by omega)]
theorem Wd_nat {a : Nat} (ha : a < 18446744073709551616) : Wd (a : Int) := ⟨by omega, by omega⟩
theorem Neg_law {a : Nat} (ha : a < 18446744073709551616) : moidoreref03_Neg.f (a : Int) = some (fneg (a : Int)) := by
  unfold moidoreref03_Neg.f
  rw [none_nat ha, Option.bind_some]
  by_cases na : rinf < rg a
  · rw [if_pos (by simpa using na), fneg_nan (Wd_nat ha) (by rw [Int.toNat_natCast]; exact na)]
  · rw [if_neg (by simpa using na), fneg_ok (Wd_nat ha) (by rw [Int.toNat_natCast]; omega), Int.toNat_natCast, ← neg_word ha, show (9223372036854775808 : Int) = ((9223372036854775808 : Nat) : Int) from rfl, u64_xor_nat _ _ ha (by decide)]; rfl
theorem fneg_wd {a : Nat} (ha : a < 18446744073709551616) : ∃ n : Nat, fneg (a : Int) = (n : Int) ∧ n < 18446744073709551616 := by
  by_cases na : rinf < rg a
  · exact ⟨9221120237041090560, fneg_nan (Wd_nat ha) (by rw [Int.toNat_natCast]; exact na), by decide⟩
  · exact ⟨_, fneg_ok (Wd_nat ha) (by rw [Int.toNat_natCast]; omega), word_lt (rg_lt _)⟩
theorem Add_law {a b : Nat} (ha : a < 18446744073709551616) (hb : b < 18446744073709551616) : moidoreref03_Add.f (a : Int) (b : Int) = some (fadd (a : Int) (b : Int)) := by
  unfold moidoreref03_Add.f
  rw [if_pos ⟨⟨by omega, by omega⟩, by omega, by omega⟩]
theorem Sub_law {a b : Nat} (ha : a < 18446744073709551616) (hb : b < 18446744073709551616) : moidoreref03_Sub.f (a : Int) (b : Int) = some (fsub (a : Int) (b : Int)) := by
  unfold moidoreref03_Sub.f
  obtain ⟨n, h1, h2⟩ := fneg_wd hb
  rw [Neg_law hb, Option.bind_some, fsub_eq (Wd_nat hb), h1, Add_law ha h2, Option.bind_some]

theorem xor_max {a : Nat} (h : a < 18446744073709551616) : 18446744073709551615 ^^^ a = 18446744073709551615 - a := by
  apply Nat.eq_of_testBit_eq
  intro i
  have h' : a < 2 ^ 64 := h
  rw [Nat.testBit_xor, show (18446744073709551615 : Nat) = 2 ^ 64 - 1 from by decide, Nat.testBit_two_pow_sub_one]
  rw [show 2 ^ 64 - 1 - a = 2 ^ 64 - (a + 1) from by omega, Nat.testBit_two_pow_sub_succ h']
  by_cases hi : i < 64
  · simp [hi]
  · have : a.testBit i = false := Nat.testBit_lt_two_pow (Nat.lt_of_lt_of_le h' (Nat.pow_le_pow_right (by decide) (by omega)))
    simp [hi, this]
theorem place_nat {a : Nat} (ha : a < 18446744073709551616) : moidoreref03_place.f (a : Int) = some (((if sg a then 9223372036854775807 - rg a else 9223372036854775808 + rg a : Nat)) : Int) := by
  have hrg : rg a = a % 9223372036854775808 := rfl
  unfold moidoreref03_place.f
  rw [if_pos ⟨by omega, by omega⟩]
  by_cases h : 9223372036854775808 ≤ a
  · have hs : sg a = true := by unfold sg; rw [beq_iff_eq]; omega
    rw [if_pos (by omega), hs, show (18446744073709551615 : Int) = ((18446744073709551615 : Nat) : Int) from rfl, u64_xor_nat _ _ (by decide) ha, xor_max ha]
    simp only [if_true]
    congr 2; omega
  · have hs : sg a = false := by unfold sg; rw [beq_eq_false_iff_ne]; omega
    rw [if_neg (by omega), hs, show (9223372036854775808 : Int) = ((9223372036854775808 : Nat) : Int) from rfl, u64_or_nat _ _ ha (by decide), Nat.or_comm, Go.nat_join 63 _ _ (by decide) (by exact Nat.lt_of_not_le h)]
    simp only [Bool.false_eq_true, if_false]
    congr 2; omega
theorem or_rg {a b : Nat} (ha : a < 18446744073709551616) (hb : b < 18446744073709551616) : Go.bits .andNot .u64 (Go.bits .or .u64 (a : Int) (b : Int)) 9223372036854775808 = ((rg a ||| rg b : Nat) : Int) := by
  have : a ||| b < 18446744073709551616 := by have := Nat.or_lt_two_pow (n := 64) (x := a) (y := b) ha hb; exact this
  rw [u64_or_nat _ _ ha hb, top_off this]
  unfold rg
  rw [show (9223372036854775808 : Nat) = 2 ^ 63 from by decide, Nat.or_mod_two_pow]
theorem or_zero' (x y : Nat) : x ||| y = 0 ↔ x = 0 ∧ y = 0 := Nat.or_eq_zero_iff

theorem Less_law {a b : Nat} (ha : a < 18446744073709551616) (hb : b < 18446744073709551616) : moidoreref03_Less.f (a : Int) (b : Int) = some (fless (a : Int) (b : Int)) := by
  have hr : rinf = 9218868437227405312 := rfl
  have la := rg_lt a
  have lb := rg_lt b
  unfold moidoreref03_Less.f
  have iff := fless_iff (a : Int) (b : Int)
  rw [Int.toNat_natCast, Int.toNat_natCast] at iff
  have tell : ∀ c : Bool, (c = true ↔ rg a ≤ rinf ∧ rg b ≤ rinf ∧ key a < key b) → some c = some (fless (a : Int) (b : Int)) := by
    intro c hc
    congr 1
    rw [Bool.eq_iff_iff, iff, hc]
  rw [none_nat ha, Option.bind_some, none_nat hb, Option.bind_some]
  by_cases na : rinf < rg a
  · rw [if_pos (by simpa using na)]; exact tell _ ⟨(fun h => by cases h), fun h => by omega⟩
  rw [if_neg (by simpa using na)]
  by_cases nb : rinf < rg b
  · rw [if_pos (by simpa using nb)]; exact tell _ ⟨(fun h => by cases h), fun h => by omega⟩
  rw [if_neg (by simpa using nb), place_nat ha, Option.bind_some, place_nat hb, Option.bind_some, or_rg ha hb]
  have hz : (((rg a ||| rg b : Nat) : Int) != 0) = true ↔ ¬ (rg a = 0 ∧ rg b = 0) := by
    rw [bne_iff_ne, ← or_zero']; omega
  have ka : key a = if sg a then -(rg a : Int) else rg a := rfl
  have kb : key b = if sg b then -(rg b : Int) else rg b := rfl
  cases c1 : sg a <;> cases c2 : sg b <;> rw [c1] at ka <;> rw [c2] at kb <;> simp only [if_true, Bool.false_eq_true, if_false] at ka kb ⊢
  all_goals
    split
    · apply tell
      rw [hz, ka, kb]
      omega
    · apply tell
      rw [ka, kb]
      exact ⟨(fun h => by cases h), fun h => by omega⟩

theorem Same_law {a b : Nat} (ha : a < 18446744073709551616) (hb : b < 18446744073709551616) : moidoreref03_Same.f (a : Int) (b : Int) = some (fsame (a : Int) (b : Int)) := by
  have hr : rinf = 9218868437227405312 := rfl
  have la := rg_lt a
  have lb := rg_lt b
  unfold moidoreref03_Same.f
  have iff := fsame_iff (a : Int) (b : Int)
  rw [Int.toNat_natCast, Int.toNat_natCast] at iff
  have tell : ∀ c : Bool, (c = true ↔ rg a ≤ rinf ∧ rg b ≤ rinf ∧ key a = key b) → some c = some (fsame (a : Int) (b : Int)) := by
    intro c hc
    congr 1
    rw [Bool.eq_iff_iff, iff, hc]
  rw [none_nat ha, Option.bind_some, none_nat hb, Option.bind_some]
  by_cases na : rinf < rg a
  · rw [if_pos (by simpa using na)]; exact tell _ ⟨(fun h => by cases h), fun h => by omega⟩
  rw [if_neg (by simpa using na)]
  by_cases nb : rinf < rg b
  · rw [if_pos (by simpa using nb)]; exact tell _ ⟨(fun h => by cases h), fun h => by omega⟩
  rw [if_neg (by simpa using nb), or_rg ha hb]
  have hz : (((rg a ||| rg b : Nat) : Int) == 0) = true ↔ (rg a = 0 ∧ rg b = 0) := by
    rw [beq_iff_eq, ← or_zero']; omega
  have ka : key a = if sg a then -(rg a : Int) else rg a := rfl
  have kb : key b = if sg b then -(rg b : Int) else rg b := rfl
  have wa := word_self ha
  have wb := word_self hb
  rw [double_word] at wa wb
  split
  · rename_i h
    have : a = b := by omega
    apply tell
    exact ⟨fun _ => ⟨by omega, by omega, by rw [this]⟩, fun _ => rfl⟩
  · rename_i h
    apply tell
    rw [hz, ka, kb]
    cases c1 : sg a <;> cases c2 : sg b <;> simp only [c1, c2, if_true, Bool.false_eq_true, if_false] at wa wb ⊢ <;> omega

theorem fbits_wd (a : Nat) (ha : a < 18446744073709551616) : ∃ n : Nat, fbits a = (n : Int) ∧ n < 18446744073709551616 ∧ ((rg a ≤ rinf ∧ n = a) ∨ (rinf < rg a ∧ n = 9221120237041090560)) := by
  by_cases na : rinf < rg a
  · exact ⟨9221120237041090560, fbits_nan na, by decide, Or.inr ⟨na, rfl⟩⟩
  · exact ⟨a, fbits_ok (by omega), ha, Or.inl ⟨by omega, rfl⟩⟩
theorem Order_law {a b : Nat} (ha : a < 18446744073709551616) (hb : b < 18446744073709551616) : moidoreref03_Order.f (a : Int) (b : Int) = some (ford (a : Int) (b : Int)) := by
  unfold moidoreref03_Order.f
  obtain ⟨n, n1, n2, n3⟩ := fbits_wd a ha
  obtain ⟨m, m1, m2, m3⟩ := fbits_wd b hb
  rw [Canon_law ha, Option.bind_some, n1, place_nat n2, Option.bind_some, Canon_law hb, Option.bind_some, m1, place_nat m2, Option.bind_some, ford_nat ha hb]
  have pl_of : ∀ {a n : Nat}, a < 18446744073709551616 → ((rg a ≤ rinf ∧ n = a) ∨ (rinf < rg a ∧ n = 9221120237041090560)) → (((if sg n then 9223372036854775807 - rg n else 9223372036854775808 + rg n : Nat)) : Int) = 9223372036854775808 + pl a := by
    intro a n ha h
    have la := rg_lt a
    rcases h with ⟨h, rfl⟩ | ⟨h, rfl⟩
    · unfold pl
      rw [if_pos h]
      cases sg n
      · simp only [Bool.false_eq_true, if_false]; omega
      · simp only [if_true]; omega
    · have : pl a = 9221120237041090560 := by unfold pl; rw [if_neg (by omega)]
      rw [this]; decide
  rw [pl_of ha n3, pl_of hb m3]
  by_cases c : pl a < pl b
  · rw [if_pos (by omega), if_pos c]
  · rw [if_neg (by omega), if_neg c]
    by_cases c2 : pl b < pl a
    · rw [if_pos (by omega), if_pos c2]
    · rw [if_neg (by omega), if_neg c2]

theorem Of_law (k : Nat) {n : Int} (h1 : -9223372036854775808 ≤ n) (h2 : n ≤ 9223372036854775807) : moidoreref03_Of.f (k + 4) n = some (fof n) := by
  unfold moidoreref03_Of.f
  have hR := fun s => rounded_nat k s 0 n.natAbs 0 false (by decide) (by omega) (by decide) (by decide) (fun h => by cases h)
  simp only [Nat.zero_mul, Nat.zero_add, rnd_exact, RP_whole] at hR
  rw [show ((0 : Nat) : Int) = 0 from rfl] at hR
  rw [fof_eq]
  by_cases c : n < 0
  · have e : IntKind.u64.wrap (wrap64 (-n)) = (n.natAbs : Int) := by
      rw [wrap_u64]; unfold wrap64; omega
    rw [if_pos c, e, hR true, Option.bind_some]; simp [c]
  · have e : IntKind.u64.wrap n = (n.natAbs : Int) := by rw [wrap_u64]; omega
    rw [if_neg c, e, hR false, Option.bind_some]; simp [c]
end Go.Proofs.Ytcobpbhmpolceaa.Pure

/-! Whole numbers of reals: the reference's are the program's; FloatTells, FloatEdges as plain laws. -/
namespace Go.Proofs.Ytcobpbhmpolceaa.Pure
open Go.RowKit Go.Proofs.Ytcobpbhmpolceaa.Ext Go.Proofs.Ytcobpbhmpolceaa.PE Go.Proofs.YtcobpbhmpolceaaW.PrintWords Go.Proofs.YtcobpbhmpolceaaW.PrintLast Go.Proofs.YtcobpbhmpolceaaW.PrintMore Ieee
set_option exponentiation.threshold 3000
set_option linter.unusedVariables false
set_option linter.unusedSimpArgs false

/-- What Int tells of a finite word. -/
theorem fint_fin {a : Nat} (h : rg a < rinf) : fint (a : Int) = if (sg a = true ∧ V (rg a) ≤ 9223372036854775808 * tw) ∨ V (rg a) < 9223372036854775808 * tw then some (if sg a then -((V (rg a) / tw : Nat) : Int) else ((V (rg a) / tw : Nat) : Int)) else none := by
  have hr : rinf = 9218868437227405312 := rfl
  obtain ⟨o1, o2, o3⟩ := order_cases a 14114281232179134464
  obtain ⟨p1, p2, p3⟩ := order_cases a 4890909195324358656
  have k1 : key 14114281232179134464 = -4890909195324358656 := by decide
  have k2 : key 4890909195324358656 = 4890909195324358656 := by decide
  have r1 : rg 14114281232179134464 = 4890909195324358656 := by decide
  have r2 : rg 4890909195324358656 = 4890909195324358656 := by decide
  have v1 := @V_lt_iff (rg a) 4890909195324358656
  have v2 := @V_lt_iff 4890909195324358656 (rg a)
  rw [V_2_63] at v1 v2
  have ka : key a = if sg a then -(rg a : Int) else rg a := rfl
  unfold fint
  rw [Int.toNat_natCast, show FloatKind.f64.format = double from rfl]
  simp only [o2, o3, p1, k1, k2, r1, r2, hr]
  have hr' : rg a < 9218868437227405312 := h
  have tf := toInt_fin h
  have tp := tw_pos
  have fin : (sg a = true ∧ V (rg a) ≤ 9223372036854775808 * tw) ∨ V (rg a) < 9223372036854775808 * tw → floatToIntVal .f64 a .i64 = some (if sg a then -((V (rg a) / tw : Nat) : Int) else ((V (rg a) / tw : Nat) : Int)) := by
    intro hc
    unfold floatToIntVal
    rw [show (FloatKind.f64.decode a).toInt .zero = (double.read a).toInt .zero from rfl, tf]
    have e1 : IntKind.i64.min = -9223372036854775808 := rfl
    have e2 : IntKind.i64.max = 9223372036854775807 := rfl
    simp only [e1, e2]
    rw [if_pos]
    rcases hc with ⟨hs, hc⟩ | hc
    · have : V (rg a) / tw ≤ 9223372036854775808 := by
        have := Nat.div_le_div_right (c := tw) hc
        rw [Nat.mul_div_cancel _ tp] at this; exact this
      rw [hs]
      generalize V (rg a) / tw = z at *
      simp only [if_true]; omega
    · have : V (rg a) / tw < 9223372036854775808 := by rw [Nat.div_lt_iff_lt_mul tp]; exact hc
      generalize V (rg a) / tw = z at *
      cases sg a <;> simp only [if_true, Bool.false_eq_true, if_false] <;> omega
  by_cases hc : (sg a = true ∧ V (rg a) ≤ 9223372036854775808 * tw) ∨ V (rg a) < 9223372036854775808 * tw
  · rw [if_pos hc, fin hc, if_pos, if_pos]
    · rw [ka]
      rcases hc with ⟨hs, hc⟩ | hc
      · rw [hs]; simp only [if_true]; omega
      · have := v1.1 hc
        cases sg a <;> simp only [if_true, Bool.false_eq_true, if_false] <;> omega
    · rw [ka]
      rcases hc with ⟨hs, hc⟩ | hc
      · have : ¬ 4890909195324358656 < rg a := fun h => by have := v2.2 h; omega
        rw [hs]; simp only [if_true]; omega
      · have := v1.1 hc
        cases sg a <;> simp only [if_true, Bool.false_eq_true, if_false] <;> omega
  · rw [if_neg hc]
    have hge : ¬ rg a < 4890909195324358656 := fun h => hc (Or.inr (v1.2 h))
    cases hs : sg a
    · rw [hs] at ka
      simp only [Bool.false_eq_true, if_false] at ka
      rw [ka]
      split
      · rw [if_neg (by omega)]
      · rfl
    · rw [hs] at ka
      simp only [if_true] at ka
      have : 4890909195324358656 < rg a := by
        rcases Nat.lt_or_ge 4890909195324358656 (rg a) with h | h
        · exact h
        · exfalso
          have he : rg a = 4890909195324358656 := by omega
          exact hc (Or.inl ⟨hs, by rw [he, V_2_63]; exact Nat.le_refl _⟩)
      rw [ka, if_neg (by omega)]

theorem read_V {a m e : Nat} (h : rg a < rinf) (h2 : double.read a = .number (sg a) m (-1074 + (e : Int))) : m * 2 ^ e = V (rg a) := by
  obtain ⟨m', e', h1, hv⟩ := read_fin h
  rw [h2] at h1
  injection h1 with _ a1 a2
  have : e = e' := by omega
  rw [a1, this]; exact hv

theorem Int_law (k : Nat) {a : Nat} (ha : a < 18446744073709551616) : moidoreref03_Int.f (k + 2) (a : Int) = some ((fint (a : Int)).getD 0, (fint (a : Int)).isSome) := by
  have hr : rinf = 9218868437227405312 := rfl
  unfold moidoreref03_Int.f
  rw [top_off ha]
  by_cases hf : rg a < rinf
  · rw [if_neg (by omega)]
    obtain ⟨m, e, o1, h2, hm, h4, he, hfull⟩ := open_nat ha hf
    have hV := read_V hf h2
    have tp := tw_pos
    rw [o1, Option.bind_some, fint_fin hf, ← hV]
    -- the end
    have fin : ∀ (hi lo : Nat), lo < 18446744073709551616 → hi * 18446744073709551616 + lo = m * 2 ^ e / tw → (9223372036854775808 ≤ m * 2 ^ e / tw → m * 2 ^ e = m * 2 ^ e / tw * tw) →
        moidoreref03_Int.j0 (k + 2) (hi : Int) (lo : Int) (sg a) 0 (m : Int) (-1074 + (e : Int)) false = some ((if (sg a = true ∧ m * 2 ^ e ≤ 9223372036854775808 * tw) ∨ m * 2 ^ e < 9223372036854775808 * tw then some (if sg a then -((m * 2 ^ e / tw : Nat) : Int) else ((m * 2 ^ e / tw : Nat) : Int)) else none).getD 0, (if (sg a = true ∧ m * 2 ^ e ≤ 9223372036854775808 * tw) ∨ m * 2 ^ e < 9223372036854775808 * tw then some (if sg a then -((m * 2 ^ e / tw : Nat) : Int) else ((m * 2 ^ e / tw : Nat) : Int)) else none).isSome) := by
      intro hi lo hlo hv hx
      have c1 : m * 2 ^ e < 9223372036854775808 * tw ↔ m * 2 ^ e / tw < 9223372036854775808 := (Nat.div_lt_iff_lt_mul tp).symm
      have c2 : m * 2 ^ e ≤ 9223372036854775808 * tw ↔ m * 2 ^ e / tw ≤ 9223372036854775808 := by
        constructor
        · intro h
          have := Nat.div_le_div_right (c := tw) h
          rwa [Nat.mul_div_cancel _ tp] at this
        · intro h
          rcases Nat.lt_or_ge (m * 2 ^ e / tw) 9223372036854775808 with c | c
          · exact Nat.le_of_lt (c1.2 c)
          · rw [hx c]; exact Nat.mul_le_mul_right _ h
      simp only [c1, c2]
      clear c1 c2 hx hV
      generalize m * 2 ^ e / tw = v at *
      have hj : ∀ b : Bool, moidoreref03_Int.j1 (k + 1) (lo : Int) b (sg a) 0 (m : Int) (-1074 + (e : Int)) false = if b = true then (some (0, false)) else (if sg a = true then (some (wrap64 (-(wrap64 (lo : Int))), true)) else (some (wrap64 (lo : Int), true))) := by
        intro b; simp only [moidoreref03_Int.j1]
      simp only [moidoreref03_Int.j0]
      by_cases d1 : 0 < hi
      · rw [if_pos (by omega), hj, if_pos rfl, if_neg (by omega)]; rfl
      · obtain rfl : hi = 0 := by omega
        have hvl : lo = v := by omega
        subst hvl
        rw [if_neg (by omega)]
        by_cases d2 : 9223372036854775808 < lo
        · rw [if_pos (by omega), hj, if_pos rfl, if_neg (by omega)]; rfl
        · rw [if_neg (by omega)]
          by_cases d3 : lo = 9223372036854775808
          · rw [if_pos (by omega), hj]
            cases hs : sg a
            · rw [show (!false) = true from rfl, if_pos rfl, if_neg (by rintro (h | h); cases h.1; omega)]; rfl
            · rw [show (!true) = false from rfl, if_neg (by decide), if_pos rfl, if_pos (Or.inl ⟨rfl, by omega⟩), if_pos rfl]
              rw [show wrap64 (-(wrap64 (lo : Int))) = -(lo : Int) from by unfold wrap64; omega]; rfl
          · rw [if_neg (by omega), hj, if_neg (by decide), if_pos (Or.inr (by omega)), w64_id (x := (lo : Int)) (by omega) (by omega), w64_id (x := -(lo : Int)) (by omega) (by omega)]
            cases sg a <;> rfl
    show (if -1074 + (e : Int) ≤ 0 then ((moidoreref03_right.f 0 (m : Int) (wrap64 (-(-1074 + (e : Int))))).bind fun bt118 => (moidoreref03_Int.j0 (k + 2) bt118.1 bt118.2.1 (sg a) 0 (m : Int) (-1074 + (e : Int)) false)) else (if -1074 + (e : Int) > 64 then (some (0, false)) else ((moidoreref03_left.f 0 (m : Int) (-1074 + (e : Int))).bind fun bt121 => (moidoreref03_Int.j0 (k + 2) bt121.1 bt121.2 (sg a) 0 (m : Int) (-1074 + (e : Int)) false)))) = _
    by_cases c : e ≤ 1074
    · have hdiv : m * 2 ^ e / tw = m / 2 ^ (1074 - e) := by
        have : tw = 2 ^ (1074 - e) * 2 ^ e := by rw [← tw_eq, ← Nat.pow_add, Nat.sub_add_cancel c]; rfl
        rw [this, Nat.mul_div_mul_right _ _ (Nat.two_pow_pos e)]
      have hle : m / 2 ^ (1074 - e) ≤ m := Nat.div_le_self _ _
      have hRi := right_nat 0 m (1074 - e) (by decide) (by omega) (by omega)
      rw [Nat.zero_mul, Nat.zero_add] at hRi
      rw [if_pos (by omega), w64_id (by omega) (by omega), show -(-1074 + (e : Int)) = ((1074 - e : Nat) : Int) from by omega, show (0 : Int) = ((0 : Nat) : Int) from rfl, hRi, Option.bind_some]
      refine fin _ _ (by omega) ?_ ?_
      · rw [hdiv]
        generalize m / 2 ^ (1074 - e) = z at *
        omega
      · intro h; exfalso
        rw [hdiv] at h
        generalize m / 2 ^ (1074 - e) = z at *
        omega
    · rw [if_neg (by omega)]
      have htw := tw_split (e := e) (by omega)
      have hV2 : m * 2 ^ e = m * 2 ^ (e - 1074) * tw := by rw [htw, Nat.mul_assoc]
      have hdiv : m * 2 ^ e / tw = m * 2 ^ (e - 1074) := by rw [hV2, Nat.mul_div_cancel _ tp]
      by_cases c2 : e - 1074 ≤ 64
      · have hX : m * 2 ^ (e - 1074) < 340282366920938463463374607431768211456 := by
          have h1 := (Nat.mul_lt_mul_right (Nat.two_pow_pos (e - 1074))).2 hm
          have h2 : 9007199254740992 * 2 ^ (e - 1074) ≤ 9007199254740992 * 2 ^ 64 := Nat.mul_le_mul_left _ (Nat.pow_le_pow_right (by decide) c2)
          exact Nat.lt_of_lt_of_le h1 (Nat.le_trans h2 (by decide))
        rw [if_neg (by omega), show -1074 + (e : Int) = ((e - 1074 : Nat) : Int) from by omega, left_nat m (e - 1074) (by omega) (by omega) hX, Option.bind_some, show ((e - 1074 : Nat) : Int) = -1074 + (e : Int) from by omega]
        refine fin _ _ (by omega) ?_ ?_
        · rw [hdiv]
          show m * 2 ^ (e - 1074) / 18446744073709551616 * 18446744073709551616 + m * 2 ^ (e - 1074) % 18446744073709551616 = _
          generalize m * 2 ^ (e - 1074) = z at *
          omega
        · intro _; rw [hdiv]; exact hV2
      · rw [if_pos (by omega)]
        have hm52 : 4503599627370496 ≤ m := by omega
        have hbig : 9223372036854775808 * tw < m * 2 ^ e := by
          rw [hV2]
          apply (Nat.mul_lt_mul_right tp).2
          have h1 : 4503599627370496 * 2 ^ 64 ≤ m * 2 ^ (e - 1074) := Nat.mul_le_mul hm52 (Nat.pow_le_pow_right (by decide) (by omega))
          exact Nat.lt_of_lt_of_le (by decide) h1
        rw [if_neg (by omega)]; rfl
  · rw [if_pos (by omega)]
    have : fint (a : Int) = none := by
      obtain ⟨p1, p2, p3⟩ := order_cases a 4890909195324358656
      obtain ⟨o1, o2, o3⟩ := order_cases a 14114281232179134464
      unfold fint
      rw [Int.toNat_natCast, show FloatKind.f64.format = double from rfl]
      have ka : key a = if sg a then -(rg a : Int) else rg a := rfl
      have k1 : key 14114281232179134464 = -4890909195324358656 := by decide
      have k2 : key 4890909195324358656 = 4890909195324358656 := by decide
      simp only [o2, o3, p1, k1, k2, ka, hr]
      cases sg a <;> simp only [if_true, Bool.false_eq_true, if_false]
      · split
        · rw [if_neg (by omega)]
        · rfl
      · rw [if_neg (by omega)]
    rw [this]; rfl

end Go.Proofs.Ytcobpbhmpolceaa.Pure
