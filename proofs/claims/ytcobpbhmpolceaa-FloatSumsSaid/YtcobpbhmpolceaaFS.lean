import Derived.Test.YtcobpbhmpolceaaFK
import Derived.Test.YtcobpbhmpolceaaFN
namespace Go.Proofs.Ytcobpbhmpolceaa
open Go.RowKit

theorem quiet_same {P : Program} {f : FuncId} {args : Array Value} {w : World} {n : Nat} {v : Value}
    (h : Calls P f args (w.drewN n) fun e w' => e = .returned v ∧ w.drewN n = w') : Calls P f args (w.drewN n) fun e w'' => e = .returned v ∧ ∃ m, w'' = w.drewN m :=
  h.mono fun _ _ ⟨he, hm⟩ => ⟨he, n, hm.symm⟩
theorem below_drewN' {B : Nat} {u w : World} (h : Below B u w) (n : Nat) : Below B u (w.drewN n) := ⟨h.os, h.tape, h.output, h.size, h.block⟩

set_option maxRecDepth 100000 in
set_option maxHeartbeats 4000000 in
theorem sums_walk (a b : Int) (ha : Wd a) (hb : Wd b) (w : World) : Calls Try.prog 5 #[.int .u64 a, .int .u64 b] w fun e w' => e = .returned (.bool true) ∧ Qt w w' := by
  have e1 := fadd_comm b a
  have e2 := fmul_comm b a
  have e3 := (fsub_eq (a := a) hb).symm
  have e4 := fneg_neg ha
  have e5 := fmul_neg (b := b) ha
  have e6 := fdiv_neg (a := a) hb
  have e7 := fadd_zero ha
  have e8 := fmul_one ha
  have e9 := fdiv_one ha
  have e10 := fadd_less ha
  have e11 := (fsqrt_cases ha).2
  have e12 := fsqrt_sign ha
  have H := Lib.hid (And.intro e1 (And.intro e2 (And.intro e3 (And.intro e4 (And.intro e5 (And.intro e6 (And.intro e7 (And.intro e8 (And.intro e9 (And.intro e10 (And.intro e11 e12)))))))))))
  obtain ⟨xs, hxs⟩ : ∃ xs : List Int, xs = [fadd a b, fmul a b, fdiv a b, fsqrt a, fsub a b, fneg a, fbits a.toNat] := ⟨_, rfl⟩
  have hr : ∀ j, j < 7 → fbits (xs.getD j 0).toNat = xs.getD j 0 := by
    intro j hj
    subst hxs
    match j, hj with
    | 0, _ => exact fadd_right a b
    | 1, _ => exact fmul_right a b
    | 2, _ => exact fdiv_right a b
    | 3, _ => exact fsqrt_right a
    | 4, _ => exact fsub_right a b
    | 5, _ => exact fneg_right a
    | 6, _ => exact fbits_right _
  have HX := Lib.hid hxs
  have HR := Lib.hid hr
  clear e1 e2 e3 e4 e5 e6 e7 e8 e9 e10 e11 e12 ha hb hr hxs
  go_enter Try.func5, Try.ntmps5
  go_wp2_with fail
  refine (awake_any _).mono ?_
  rintro e w2 ⟨rfl, q2⟩
  go_wp2_with fail
  refine (Add_any _ _ _).mono ?_
  rintro e w3 ⟨rfl, q3⟩
  go_wp2_with fail
  refine (Mul_any _ _ _).mono ?_
  rintro e w4 ⟨rfl, q4⟩
  go_wp2_with fail
  refine (Div_any _ _ _).mono ?_
  rintro e w5 ⟨rfl, q5⟩
  go_wp2_with fail
  refine (Sqrt_any _ _).mono ?_
  rintro e w6 ⟨rfl, q6⟩
  go_wp2_with fail
  refine (Sub_any _ _ _).mono ?_
  rintro e w7 ⟨rfl, q7⟩
  go_wp2_with fail
  refine (Neg_any _ _).mono ?_
  rintro e w8 ⟨rfl, q8⟩
  go_wp2_with fail
  refine (Canon_any _ _).mono ?_
  rintro e w9 ⟨rfl, rfl⟩
  go_wp2_with fail
  have hq : Qt w w8 := q2.trans (q3.trans (q4.trans (q5.trans (q6.trans (q7.trans q8)))))
  clear q2 q3 q4 q5 q6 q7 q8
  have hcell : ∀ j, j < 7 → (w8.alloc (.cells #[.int .u64 (fadd a b), .int .u64 (fmul a b), .int .u64 (fdiv a b), .int .u64 (fsqrt a), .int .u64 (fsub a b), .int .u64 (fneg a), .int .u64 (fbits a.toNat)] 22)).cell? ⟨w8.heap.size, j, none⟩ = some (.int .u64 (xs.getD j 0)) := by
    intro j hj
    rw [HX.out]
    match j, hj with
    | 0, _ => simp [go_sem]
    | 1, _ => simp [go_sem]
    | 2, _ => simp [go_sem]
    | 3, _ => simp [go_sem]
    | 4, _ => simp [go_sem]
    | 5, _ => simp [go_sem]
    | 6, _ => simp [go_sem]
  have hb8 : Below w.heap.size w (w8.alloc (.cells #[.int .u64 (fadd a b), .int .u64 (fmul a b), .int .u64 (fdiv a b), .int .u64 (fsqrt a), .int .u64 (fsub a b), .int .u64 (fneg a), .int .u64 (fbits a.toNat)] 22)) := Below.alloc hq (by have := hq.size; omega) _
  have HC := Lib.hid hcell; clear hcell HX
  generalize (w8.alloc (.cells #[.int .u64 (fadd a b), .int .u64 (fmul a b), .int .u64 (fdiv a b), .int .u64 (fsqrt a), .int .u64 (fsub a b), .int .u64 (fneg a), .int .u64 (fbits a.toNat)] 22)) = W0 at *
  generalize w8.heap.size = B0 at *
  clear hq
  go_loopw [10] (fun i wr => ∃ k : Nat, k ≤ 7 ∧ i = .int .i64 k ∧ ∃ m, wr = W0.drewN m) (fun i _ => 7 - (intOf i).toNat)
  case atStart => exact ⟨0, by omega, rfl, 0, rfl⟩
  case round =>
    obtain ⟨k, hk, rfl, m, hm⟩ := hrel
    have HM := Lib.hid hm; clear hm
    by_cases hlt : k < 7
    · have hcx : wr.cell? ⟨B0, k, none⟩ = some (.int .u64 (xs.getD k 0)) := by rw [HM.out]; exact HC.out k hlt
      have hrx := HR.out k hlt
      generalize xs.getD k 0 = x at *
      have r1 : (fbits x.toNat == x) = true := by rw [hrx]; simp
      have r2 : (x != fbits x.toNat) = false := by rw [hrx]; simp
      clear hrx
      go_wp2_with fail
      go_quiet ((first | (go_at_call 21; exact quiet_same (Right_any _ _)) | (go_at_call 10; exact quiet_same (Canon_any _ _))))
      go_wp2_with fail
      go_roundw
      case rel => exact ⟨k + 1, by omega, by go_num, m + nq, by rw [HM.out, World.drewN_drewN]⟩
      case measure => simp [intOf]; omega
    · obtain rfl : k = 7 := by omega
      have hb9 : Below w.heap.size w wr := by rw [HM.out]; exact below_drewN' hb8 m
      clear hb8 HC HR HM
      obtain ⟨e1, e2, e3, e4, e5, e6, e7, e8, e9, e10, e11, e12⟩ := H.out
      clear H
      by_cases hl : a = 9223372036854775808
      · have e7' : fadd a 0 = 0 := by rw [e7, if_pos hl]
        have eb : (a == 9223372036854775808) = true := by simpa using hl
        clear e7 hl
        have E := Lib.hid (And.intro e1 (And.intro e2 (And.intro e3 (And.intro e4 (And.intro e5 (And.intro e6 (And.intro e7' (And.intro e8 (And.intro e9 (And.intro e10 (And.intro e11 e12)))))))))))
        clear e1 e2 e3 e4 e5 e6 e7' e8 e9 e10 e11 e12
        go_wp2_with fail
        refine (Canon_any _ _).mono ?_
        rintro e w10 ⟨rfl, rfl⟩
        go_wp2_with fail
        refine (Add_any _ _ _).mono ?_
        rintro e w11 ⟨rfl, q11⟩
        rw [E.out.1]
        go_wp2_with fail
        refine (Mul_any _ _ _).mono ?_
        rintro e w12 ⟨rfl, q12⟩
        rw [E.out.2.1]
        go_wp2_with fail
        refine (Sub_any _ _ _).mono ?_
        rintro e w13 ⟨rfl, q13⟩
        go_wp2_with fail
        refine (Neg_any _ _).mono ?_
        rintro e w14 ⟨rfl, q14⟩
        go_wp2_with fail
        refine (Add_any _ _ _).mono ?_
        rintro e w15 ⟨rfl, q15⟩
        rw [← E.out.2.2.1]
        go_wp2_with fail
        refine (Neg_any _ _).mono ?_
        rintro e w16 ⟨rfl, q16⟩
        go_wp2_with fail
        refine (Neg_any _ _).mono ?_
        rintro e w17 ⟨rfl, q17⟩
        rw [E.out.2.2.2.1]
        go_wp2_with fail
        refine (Neg_any _ _).mono ?_
        rintro e w18 ⟨rfl, q18⟩
        go_wp2_with fail
        refine (Mul_any _ _ _).mono ?_
        rintro e w19 ⟨rfl, q19⟩
        rw [E.out.2.2.2.2.1]
        go_wp2_with fail
        refine (Neg_any _ _).mono ?_
        rintro e w20 ⟨rfl, q20⟩
        go_wp2_with fail
        refine (Neg_any _ _).mono ?_
        rintro e w21 ⟨rfl, q21⟩
        go_wp2_with fail
        refine (Div_any _ _ _).mono ?_
        rintro e w22 ⟨rfl, q22⟩
        rw [E.out.2.2.2.2.2.1]
        go_wp2_with fail
        refine (Neg_any _ _).mono ?_
        rintro e w23 ⟨rfl, q23⟩
        go_wp2_with fail
        refine (Add_any _ _ _).mono ?_
        rintro e w24 ⟨rfl, q24⟩
        rw [E.out.2.2.2.2.2.2.1]
        go_wp2_with fail
        refine (Mul_any _ _ _).mono ?_
        rintro e w25 ⟨rfl, q25⟩
        rw [E.out.2.2.2.2.2.2.2.1]
        go_wp2_with fail
        refine (Div_any _ _ _).mono ?_
        rintro e w26 ⟨rfl, q26⟩
        rw [E.out.2.2.2.2.2.2.2.2.1]
        go_wp2_with fail
        refine (Add_any _ _ _).mono ?_
        rintro e w27 ⟨rfl, q27⟩
        rw [E.out.2.2.2.2.2.2.2.2.2.1]
        go_wp2_with fail
        refine (Less_any _ _ _).mono ?_
        rintro e w28 ⟨rfl, rfl⟩
        rw [E.out.2.2.2.2.2.2.2.2.2.2.1]
        go_wp2_with fail
        refine (Less_any _ _ _).mono ?_
        rintro e w29 ⟨rfl, rfl⟩
        rw [E.out.2.2.2.2.2.2.2.2.2.2.2]
        go_wp2_with fail
        all_goals (go_ret; refine ⟨?_, Below.trans hb9 (Below.mono (q11.trans (q12.trans (q13.trans (q14.trans (q15.trans (q16.trans (q17.trans (q18.trans (q19.trans (q20.trans (q21.trans (q22.trans (q23.trans (q24.trans (q25.trans (q26.trans (q27))))))))))))))))) hb9.size)⟩; first | (simp [bne]; done) | (simp [*]; done))
      · have e7' : fadd a 0 = fbits a.toNat := by rw [e7, if_neg hl]
        have eb : (a == 9223372036854775808) = false := by simpa using hl
        clear e7 hl
        have E := Lib.hid (And.intro e1 (And.intro e2 (And.intro e3 (And.intro e4 (And.intro e5 (And.intro e6 (And.intro e7' (And.intro e8 (And.intro e9 (And.intro e10 (And.intro e11 e12)))))))))))
        clear e1 e2 e3 e4 e5 e6 e7' e8 e9 e10 e11 e12
        go_wp2_with fail
        refine (Canon_any _ _).mono ?_
        rintro e w30 ⟨rfl, rfl⟩
        go_wp2_with fail
        refine (Add_any _ _ _).mono ?_
        rintro e w31 ⟨rfl, q31⟩
        rw [E.out.1]
        go_wp2_with fail
        refine (Mul_any _ _ _).mono ?_
        rintro e w32 ⟨rfl, q32⟩
        rw [E.out.2.1]
        go_wp2_with fail
        refine (Sub_any _ _ _).mono ?_
        rintro e w33 ⟨rfl, q33⟩
        go_wp2_with fail
        refine (Neg_any _ _).mono ?_
        rintro e w34 ⟨rfl, q34⟩
        go_wp2_with fail
        refine (Add_any _ _ _).mono ?_
        rintro e w35 ⟨rfl, q35⟩
        rw [← E.out.2.2.1]
        go_wp2_with fail
        refine (Neg_any _ _).mono ?_
        rintro e w36 ⟨rfl, q36⟩
        go_wp2_with fail
        refine (Neg_any _ _).mono ?_
        rintro e w37 ⟨rfl, q37⟩
        rw [E.out.2.2.2.1]
        go_wp2_with fail
        refine (Neg_any _ _).mono ?_
        rintro e w38 ⟨rfl, q38⟩
        go_wp2_with fail
        refine (Mul_any _ _ _).mono ?_
        rintro e w39 ⟨rfl, q39⟩
        rw [E.out.2.2.2.2.1]
        go_wp2_with fail
        refine (Neg_any _ _).mono ?_
        rintro e w40 ⟨rfl, q40⟩
        go_wp2_with fail
        refine (Neg_any _ _).mono ?_
        rintro e w41 ⟨rfl, q41⟩
        go_wp2_with fail
        refine (Div_any _ _ _).mono ?_
        rintro e w42 ⟨rfl, q42⟩
        rw [E.out.2.2.2.2.2.1]
        go_wp2_with fail
        refine (Neg_any _ _).mono ?_
        rintro e w43 ⟨rfl, q43⟩
        go_wp2_with fail
        refine (Add_any _ _ _).mono ?_
        rintro e w44 ⟨rfl, q44⟩
        rw [E.out.2.2.2.2.2.2.1]
        go_wp2_with fail
        refine (Mul_any _ _ _).mono ?_
        rintro e w45 ⟨rfl, q45⟩
        rw [E.out.2.2.2.2.2.2.2.1]
        go_wp2_with fail
        refine (Div_any _ _ _).mono ?_
        rintro e w46 ⟨rfl, q46⟩
        rw [E.out.2.2.2.2.2.2.2.2.1]
        go_wp2_with fail
        refine (Add_any _ _ _).mono ?_
        rintro e w47 ⟨rfl, q47⟩
        rw [E.out.2.2.2.2.2.2.2.2.2.1]
        go_wp2_with fail
        refine (Less_any _ _ _).mono ?_
        rintro e w48 ⟨rfl, rfl⟩
        rw [E.out.2.2.2.2.2.2.2.2.2.2.1]
        go_wp2_with fail
        refine (Less_any _ _ _).mono ?_
        rintro e w49 ⟨rfl, rfl⟩
        rw [E.out.2.2.2.2.2.2.2.2.2.2.2]
        go_wp2_with fail
        all_goals (go_ret; refine ⟨?_, Below.trans hb9 (Below.mono (q31.trans (q32.trans (q33.trans (q34.trans (q35.trans (q36.trans (q37.trans (q38.trans (q39.trans (q40.trans (q41.trans (q42.trans (q43.trans (q44.trans (q45.trans (q46.trans (q47))))))))))))))))) hb9.size)⟩; first | (simp [bne]; done) | (simp [*]; done))
end Go.Proofs.Ytcobpbhmpolceaa
