import Derived.Test.YtcobpbhmpolceaaFO
import Derived.Deep.DeepCutAuto
namespace Go.Proofs.Ytcobpbhmpolceaa
open Go.RowKit

theorem k1 : fint 13826050856027422720 = some 0 := by decide +kernel
theorem k2 : fint 4890909195324358656 = none := by decide +kernel
theorem k3 : fadd 4607182418800017408 4368491638549381120 = 4607182418800017408 := by decide +kernel
theorem k4 : fadd 4607182418800017408 4370743438363066368 = 4607182418800017409 := by decide +kernel
theorem k5 : fdiv 4607182418800017408 9223372036854775808 = 18442240474082181120 := by decide +kernel
theorem k6 : fsub 9218868437227405312 9218868437227405312 = 9221120237041090560 := by decide +kernel
theorem k7 : ford 9223372036854775808 0 = -1 := by decide +kernel
theorem k8 : fsame 9223372036854775808 0 = true := by decide +kernel

set_option maxHeartbeats 400000 in
theorem awake_any (w : World) : Calls Try.prog 8 #[] w fun e w' => e = .returned (.bool true) ∧ Qt w w' := by
  go_enter Try.func8, Try.ntmps8
  go_wp2_with fail
  refine (Int_any _ _).mono ?_
  rintro e w1 ⟨rfl, q1⟩
  rw [k1]
  go_wp2_with fail
  refine (Int_any _ _).mono ?_
  rintro e w2 ⟨rfl, q2⟩
  rw [k2]
  go_wp2_with fail
  refine (Add_any _ _ _).mono ?_
  rintro e w3 ⟨rfl, q3⟩
  rw [k3]
  go_wp2_with fail
  refine (Add_any _ _ _).mono ?_
  rintro e w4 ⟨rfl, q4⟩
  rw [k4]
  go_wp2_with fail
  refine (Div_any _ _ _).mono ?_
  rintro e w5 ⟨rfl, q5⟩
  rw [k5]
  go_wp2_with fail
  refine (Sub_any _ _ _).mono ?_
  rintro e w6 ⟨rfl, q6⟩
  rw [k6]
  go_wp2_with fail
  refine (Order_any _ _ _).mono ?_
  rintro e w7 ⟨rfl, rfl⟩
  rw [k7]
  go_wp2_with fail
  refine (Same_any _ _ _).mono ?_
  rintro e w8 ⟨rfl, rfl⟩
  rw [k8]
  go_wp2_with fail
  go_ret
  exact ⟨rfl, q1.trans (q2.trans (q3.trans (q4.trans (q5.trans q6))))⟩
#print axioms awake_any
end Go.Proofs.Ytcobpbhmpolceaa
