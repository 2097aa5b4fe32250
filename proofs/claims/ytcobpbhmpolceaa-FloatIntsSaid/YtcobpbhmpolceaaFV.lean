import Derived.Test.YtcobpbhmpolceaaFK
import Derived.Test.YtcobpbhmpolceaaFQ
namespace Go.Proofs.Ytcobpbhmpolceaa
open Go.RowKit

theorem i64_bd {a : Int} (h : (Lit.int .i64 a).wf = true) : -9223372036854775808 ≤ a ∧ a ≤ 9223372036854775807 := by
  have e1 : IntKind.i64.min = -9223372036854775808 := rfl
  have e2 : IntKind.i64.max = 9223372036854775807 := rfl
  simp only [Lit.wf, Bool.and_eq_true, decide_eq_true_eq, e1, e2] at h
  exact h

theorem prod_bd {n m : Int} (h1 : -67108864 ≤ n) (h2 : n ≤ 67108864) (h3 : -67108864 ≤ m) (h4 : m ≤ 67108864) : -4503599627370496 ≤ n * m ∧ n * m ≤ 4503599627370496 := by
  have : (n * m).natAbs ≤ 4503599627370496 := by
    rw [Int.natAbs_mul]
    exact Nat.mul_le_mul (show n.natAbs ≤ 67108864 by omega) (show m.natAbs ≤ 67108864 by omega)
  omega

set_option maxRecDepth 100000 in
set_option maxHeartbeats 4000000 in
theorem ints_walk (n m : Int) (n1 : -9223372036854775808 ≤ n) (n2 : n ≤ 9223372036854775807) (m1 : -9223372036854775808 ≤ m) (m2 : m ≤ 9223372036854775807) (w : World) : Calls Try.prog 4 #[.int .i64 n, .int .i64 m] w fun e w' => e = .returned (.bool true) ∧ Qt w w' := by
  go_enter Try.func4, Try.ntmps4
  go_wp2_with fail
  refine (awake_any _).mono ?_
  rintro e w1 ⟨rfl, q1⟩
  go_wp2_with fail
  refine (Of_any _ _).mono ?_
  rintro e w' ⟨rfl, rfl⟩
  go_wp2_with fail
  refine (Of_any _ _).mono ?_
  rintro e w' ⟨rfl, rfl⟩
  go_upto_region 4 with fail
  go_cut [0, 1, 5, 6, 33] (fun s0 s1 s5 s6 s wx => s0 = .int .i64 n ∧ s1 = .int .i64 m ∧ s5 = .int .u64 (fof n) ∧ s6 = .int .u64 (fof m) ∧ s = .bool false ∧ w1 = wx)
  case first =>
    rcases (by omega : n < m ∨ (n ≤ m ∧ m ≤ n) ∨ m < n) with h | h | h
    · have HL := Lib.hid (fof_mono (Int.le_of_lt h))
      go_wp2_with fail
      refine (Less_any _ _ _).mono ?_
      rintro e w' ⟨rfl, rfl⟩
      rw [HL.out]
      go_wp2_with fail
      go_meet
      exact ⟨by first | rfl | (congr 1; omega), by first | rfl | (congr 1; omega), by first | rfl | (congr 2; omega), by first | rfl | (congr 2; omega), rfl, rfl⟩
    · have he : (fof n != fof m) = false := by rw [show n = m from by omega]; simp
      obtain ⟨h1, h2⟩ := h
      go_wp2_with fail
      go_meet
      exact ⟨by first | rfl | (congr 1; omega), by first | rfl | (congr 1; omega), by first | rfl | (congr 2; omega), by first | rfl | (congr 2; omega), rfl, rfl⟩
    · go_wp2_with fail
      go_meet
      exact ⟨by first | rfl | (congr 1; omega), by first | rfl | (congr 1; omega), by first | rfl | (congr 2; omega), by first | rfl | (congr 2; omega), rfl, rfl⟩
  case rest =>
    obtain ⟨rfl, rfl, rfl, rfl, rfl, rfl⟩ := hcut
    by_cases hs : Small n ∧ Small m
    · obtain ⟨hn, hm⟩ := hs
      have HN := Lib.hid hn
      have HM := Lib.hid hm
      obtain ⟨hn1, hn2⟩ := hn
      obtain ⟨hm1, hm2⟩ := hm
      go_wp2_with fail
      refine (Int_any _ _).mono ?_
      rintro e w2 ⟨rfl, q2⟩
      rw [fint_whole HN.out]
      go_wp2_with fail
      refine (Less_any _ _ _).mono ?_
      rintro e w' ⟨rfl, rfl⟩
      rw [fless_whole HN.out HM.out]
      go_wp2_with fail
      refine (Same_any _ _ _).mono ?_
      rintro e w' ⟨rfl, rfl⟩
      rw [fsame_whole HN.out HM.out]
      go_upto_region 12 with fail
      go_cut [9, 98] (fun s9 s wx => s9 = .int .i64 (n + m) ∧ s = .bool false ∧ Qt w2 wx)
      case first =>
        by_cases hr : -9007199254740992 ≤ n + m ∧ n + m ≤ 9007199254740992
        · obtain ⟨r1, r2⟩ := hr
          go_wp2_with fail
          refine (Add_any _ _ _).mono ?_
          rintro e w3 ⟨rfl, q3⟩
          go_wp2_with fail
          refine (Of_any _ _).mono ?_
          rintro e w' ⟨rfl, rfl⟩
          by_cases h0 : n + m = 0
          · have z1 : 0 ≤ n + m := by omega
            have z2 : n + m ≤ 0 := by omega
            clear h0
            go_wp2_with fail
            all_goals go_meet
            all_goals exact ⟨by first | rfl | (congr 1; omega), by first | rfl | (congr 1; simp only [Bool.and_eq_false_iff, bne_eq_false_iff_eq]; right; omega), q3⟩
          · rw [fadd_whole HN.out HM.out h0]
            go_wp2_with fail
            go_meet
            exact ⟨rfl, rfl, q3⟩
        · rcases (by omega : n + m < -9007199254740992 ∨ 9007199254740992 < n + m) with h | h
          all_goals
            clear hr
            go_wp2_with fail
            go_meet
            exact ⟨rfl, rfl, Qt.refl _⟩
      case rest =>
        obtain ⟨rfl, rfl, q3⟩ := hcut
        by_cases ht : (-67108864 ≤ n ∧ n ≤ 67108864) ∧ -67108864 ≤ m ∧ m ≤ 67108864
        · obtain ⟨⟨t1, t2⟩, t3, t4⟩ := ht
          obtain ⟨p1, p2⟩ := prod_bd t1 t2 t3 t4
          have HS := Lib.hid (fmul_square t1 t2)
          have HD := Lib.hid (fsub_self (fof_Wd n) (fof_fin HN.out))
          have HP := Lib.hid (fun h => fmul_whole (n := n) (m := m) HN.out HM.out h)
          clear hn1 hn2 hm1 hm2
          by_cases hn0 : n = 0
          · subst hn0
            have HM2 : Hid (fsqrt (fmul (fof 0) (fof 0)) = fof 0) := Lib.hid HS.out
            go_wp2_with fail
            refine (Mul_any _ _ _).mono ?_
            rintro e w5 ⟨rfl, q5⟩
            go_wp2_with fail
            refine (Sqrt_any _ _).mono ?_
            rintro e w6 ⟨rfl, q6⟩
            rw [HM2.out]
            go_wp2_with fail
            refine (Of_any _ _).mono ?_
            rintro e w' ⟨rfl, rfl⟩
            go_wp2_with fail
            refine (Sub_any _ _ _).mono ?_
            rintro e w7 ⟨rfl, q7⟩
            rw [HD.out]
            go_wp2_with fail
            go_ret
            exact ⟨rfl, q1.trans (q2.trans (q3.trans (q5.trans (q6.trans q7))))⟩
          · by_cases hm0 : m = 0
            · subst hm0
              rcases (by omega : n < 0 ∨ 0 < n) with hsg | hsg
              · have HM2 : Hid (fsqrt (fmul (fof n) (fof n)) = fof (-n)) := Lib.hid (by rw [HS.out, show max n (-n) = -n from by omega])
                go_wp2_with fail
                refine (Mul_any _ _ _).mono ?_
                rintro e w5 ⟨rfl, q5⟩
                go_wp2_with fail
                refine (Sqrt_any _ _).mono ?_
                rintro e w6 ⟨rfl, q6⟩
                rw [HM2.out]
                go_wp2_with fail
                refine (Of_any _ _).mono ?_
                rintro e w' ⟨rfl, rfl⟩
                go_wp2_with fail
                refine (Sub_any _ _ _).mono ?_
                rintro e w7 ⟨rfl, q7⟩
                rw [HD.out]
                go_wp2_with fail
                go_ret
                exact ⟨rfl, q1.trans (q2.trans (q3.trans (q5.trans (q6.trans q7))))⟩
              · have HM2 : Hid (fsqrt (fmul (fof n) (fof n)) = fof n) := Lib.hid (by rw [HS.out, show max n (-n) = n from by omega])
                go_wp2_with fail
                refine (Mul_any _ _ _).mono ?_
                rintro e w5 ⟨rfl, q5⟩
                go_wp2_with fail
                refine (Sqrt_any _ _).mono ?_
                rintro e w6 ⟨rfl, q6⟩
                rw [HM2.out]
                go_wp2_with fail
                refine (Of_any _ _).mono ?_
                rintro e w' ⟨rfl, rfl⟩
                go_wp2_with fail
                refine (Sub_any _ _ _).mono ?_
                rintro e w7 ⟨rfl, q7⟩
                rw [HD.out]
                go_wp2_with fail
                go_ret
                exact ⟨rfl, q1.trans (q2.trans (q3.trans (q5.trans (q6.trans q7))))⟩
            · rcases (by omega : n < 0 ∨ 0 < n) with hsg | hsg
              · have HM2 : Hid (fsqrt (fmul (fof n) (fof n)) = fof (-n)) := Lib.hid (by rw [HS.out, show max n (-n) = -n from by omega])
                go_wp2_with fail
                refine (Mul_any _ _ _).mono ?_
                rintro e w4 ⟨rfl, q4⟩
                rw [HP.out (Int.mul_ne_zero hn0 hm0)]
                go_wp2_with fail
                refine (Of_any _ _).mono ?_
                rintro e w' ⟨rfl, rfl⟩
                go_wp2_with fail
                refine (Mul_any _ _ _).mono ?_
                rintro e w5 ⟨rfl, q5⟩
                go_wp2_with fail
                refine (Sqrt_any _ _).mono ?_
                rintro e w6 ⟨rfl, q6⟩
                rw [HM2.out]
                go_wp2_with fail
                refine (Of_any _ _).mono ?_
                rintro e w' ⟨rfl, rfl⟩
                go_wp2_with fail
                refine (Sub_any _ _ _).mono ?_
                rintro e w7 ⟨rfl, q7⟩
                rw [HD.out]
                go_wp2_with fail
                go_ret
                exact ⟨rfl, q1.trans (q2.trans (q3.trans (q4.trans (q5.trans (q6.trans q7)))))⟩
              · have HM2 : Hid (fsqrt (fmul (fof n) (fof n)) = fof n) := Lib.hid (by rw [HS.out, show max n (-n) = n from by omega])
                go_wp2_with fail
                refine (Mul_any _ _ _).mono ?_
                rintro e w4 ⟨rfl, q4⟩
                rw [HP.out (Int.mul_ne_zero hn0 hm0)]
                go_wp2_with fail
                refine (Of_any _ _).mono ?_
                rintro e w' ⟨rfl, rfl⟩
                go_wp2_with fail
                refine (Mul_any _ _ _).mono ?_
                rintro e w5 ⟨rfl, q5⟩
                go_wp2_with fail
                refine (Sqrt_any _ _).mono ?_
                rintro e w6 ⟨rfl, q6⟩
                rw [HM2.out]
                go_wp2_with fail
                refine (Of_any _ _).mono ?_
                rintro e w' ⟨rfl, rfl⟩
                go_wp2_with fail
                refine (Sub_any _ _ _).mono ?_
                rintro e w7 ⟨rfl, q7⟩
                rw [HD.out]
                go_wp2_with fail
                go_ret
                exact ⟨rfl, q1.trans (q2.trans (q3.trans (q4.trans (q5.trans (q6.trans q7)))))⟩
        · rcases (by omega : n < -67108864 ∨ 67108864 < n ∨ m < -67108864 ∨ 67108864 < m) with h | h | h | h
          all_goals
            clear ht
            go_wp2_with fail
            all_goals (go_ret; exact ⟨rfl, q1.trans (q2.trans q3)⟩)
    · rcases (by unfold Small at hs; omega : n < -9007199254740992 ∨ 9007199254740992 < n ∨ m < -9007199254740992 ∨ 9007199254740992 < m) with h | h | h | h
      all_goals
        clear hs
        go_wp2_with fail
        all_goals (go_ret; exact ⟨rfl, q1⟩)
end Go.Proofs.Ytcobpbhmpolceaa
