import Derived.Test.YtcobpbhmpolceaaFK
namespace Go.Proofs.Ytcobpbhmpolceaa
open Go.RowKit

set_option maxRecDepth 100000 in
set_option maxHeartbeats 2000000 in
theorem order_walk (a b c : Int) (ha : Wd a) (hb : Wd b) (hc : Wd c) (w : World) : Calls Try.prog 3 #[.int .u64 a, .int .u64 b, .int .u64 c] w fun e w' => e = .returned (.bool true) ∧ Qt w w' := by
  obtain ⟨x1, x2, x3⟩ := ford_bd ha hb
  obtain ⟨y1, y2, _⟩ := ford_bd hb ha
  have x4 : 0 ≤ ford a b + ford b a := by omega
  have x5 : ford a b + ford b a ≤ 0 := by omega
  have hz := ford_zero ha hb
  have ht := ford_trans ha hb hc
  have hL := less_eq ha hb
  have hS := same_eq ha hb
  have hA := @add_mono a b c
  have HZ := Lib.hid hz
  have HT := Lib.hid ht
  have HL := Lib.hid hL
  have HS := Lib.hid hS
  have HA := Lib.hid hA
  clear x3 hz ht hL hS hA ha hb hc
  go_enter Try.func3, Try.ntmps3
  go_wp2_with fail
  refine (awake_any _).mono ?_
  rintro e w1 ⟨rfl, q1⟩
  go_upto_region 4 with (go_at_call 9; refine (Order_any _ _ _).mono ?_; rintro e w' ⟨rfl, rfl⟩)
  go_cut [7, 56] (fun s7 s wx => s7 = .int .i64 (ford a b) ∧ s = .bool false ∧ w1 = wx)
  case first =>
    rcases (by omega : ford a b = 0 ∨ ford a b < 0 ∨ 0 < ford a b) with h | h | h
    · have hcn : (fbits a.toNat == fbits b.toNat) = true := by rw [beq_iff_eq]; exact HZ.out.1 h
      have g1 : 0 ≤ ford a b := by omega
      have g2 : ford a b ≤ 0 := by omega
      clear h
      rcases (by omega : ford b c ≤ 0 ∨ 0 < ford b c) with h' | h'
      · have g3 := HT.out g2 h'
        go_wp2_with (first | (go_at_call 9; refine (Order_any _ _ _).mono ?_; rintro e w' ⟨rfl, rfl⟩) | (go_at_call 10; refine (Canon_any _ _).mono ?_; rintro e w' ⟨rfl, rfl⟩))
        go_meet
        exact ⟨by first | rfl | (congr 1; omega), by first | rfl | (congr 1; simp; omega), rfl⟩
      · go_wp2_with (first | (go_at_call 9; refine (Order_any _ _ _).mono ?_; rintro e w' ⟨rfl, rfl⟩) | (go_at_call 10; refine (Canon_any _ _).mono ?_; rintro e w' ⟨rfl, rfl⟩))
        go_meet
        exact ⟨by first | rfl | (congr 1; omega), by first | rfl | (congr 1; simp; omega), rfl⟩
    · have hcn : (fbits a.toNat == fbits b.toNat) = false := by rw [beq_eq_false_iff_ne, ne_eq, ← HZ.out]; omega
      have g2 : ford a b ≤ 0 := by omega
      rcases (by omega : ford b c ≤ 0 ∨ 0 < ford b c) with h' | h'
      · have g3 := HT.out g2 h'
        go_wp2_with (first | (go_at_call 9; refine (Order_any _ _ _).mono ?_; rintro e w' ⟨rfl, rfl⟩) | (go_at_call 10; refine (Canon_any _ _).mono ?_; rintro e w' ⟨rfl, rfl⟩))
        go_meet
        exact ⟨by first | rfl | (congr 1; omega), by first | rfl | (congr 1; simp; omega), rfl⟩
      · go_wp2_with (first | (go_at_call 9; refine (Order_any _ _ _).mono ?_; rintro e w' ⟨rfl, rfl⟩) | (go_at_call 10; refine (Canon_any _ _).mono ?_; rintro e w' ⟨rfl, rfl⟩))
        go_meet
        exact ⟨by first | rfl | (congr 1; omega), by first | rfl | (congr 1; simp; omega), rfl⟩
    · have hcn : (fbits a.toNat == fbits b.toNat) = false := by rw [beq_eq_false_iff_ne, ne_eq, ← HZ.out]; omega
      go_wp2_with (first | (go_at_call 9; refine (Order_any _ _ _).mono ?_; rintro e w' ⟨rfl, rfl⟩) | (go_at_call 10; refine (Canon_any _ _).mono ?_; rintro e w' ⟨rfl, rfl⟩))
      go_meet
      exact ⟨by first | rfl | (congr 1; omega), by first | rfl | (congr 1; simp; omega), rfl⟩
  case rest =>
    obtain ⟨rfl, rfl, rfl⟩ := hcut
    go_upto_region 6 with fail
    go_cut [9] (fun s wx => s = .bool (nn a b) ∧ w1 = wx)
    case first =>
      go_wp2_with (go_at_call 10; refine (Canon_any _ _).mono ?_; rintro e w' ⟨rfl, rfl⟩)
      all_goals go_meet
      all_goals (refine ⟨?_, rfl⟩; simp [nn, *])
    case rest =>
      obtain ⟨rfl, rfl⟩ := hcut
      go_upto_region 7 with fail
      go_cut [10] (fun s wx => s = .bool (mm a b) ∧ w1 = wx)
      case first =>
        go_wp2_with fail
        all_goals go_meet
        all_goals (refine ⟨?_, rfl⟩; simp [mm, nought, *])
      case rest =>
        obtain ⟨rfl, rfl⟩ := hcut
        go_upto_region 8 with fail
        go_cut [101] (fun s wx => s = .bool false ∧ w1 = wx)
        case first =>
          have hL := HL.out
          have hS := HS.out
          have L1 := Less_any a b
          have L2 := Same_any a b
          generalize ford a b = x at *
          generalize fless a b = l at *
          generalize fsame a b = s at *
          generalize nn a b = n at *
          generalize mm a b = m at *
          have hx : x = -1 ∨ x = 0 ∨ x = 1 := by omega
          have LL1 := Lib.hid L1
          have LL2 := Lib.hid L2
          clear L1 L2 HZ HT HL HS HA x1 x2 y1 y2 x4 x5 q1
          rcases hx with rfl | rfl | rfl <;> cases n <;> cases m <;> simp at hL hS <;> subst hL hS
          all_goals (go_wp2_with (first | (go_at_call 11; refine (LL1.out _).mono ?_; rintro e w' ⟨rfl, rfl⟩) | (go_at_call 12; refine (LL2.out _).mono ?_; rintro e w' ⟨rfl, rfl⟩)))
          all_goals go_meet
          all_goals exact ⟨rfl, rfl⟩
        case rest =>
          obtain ⟨rfl, rfl⟩ := hcut
          go_wp2_with fail
          refine (Less_any _ _ _).mono ?_
          rintro e w' ⟨rfl, rfl⟩
          cases hl : fless a b with
          | false =>
            go_wp2_with fail
            go_ret
            exact ⟨rfl, q1⟩
          | true =>
            have g := HA.out hl
            go_wp2_with fail
            refine (Add_any _ _ _).mono ?_
            rintro e w2 ⟨rfl, q2⟩
            go_wp2_with fail
            refine (Add_any _ _ _).mono ?_
            rintro e w3 ⟨rfl, q3⟩
            go_wp2_with fail
            refine (Less_any _ _ _).mono ?_
            rintro e w4 ⟨rfl, rfl⟩
            go_wp2_with fail
            go_ret
            exact ⟨rfl, q1.trans (q2.trans q3)⟩
end Go.Proofs.Ytcobpbhmpolceaa
