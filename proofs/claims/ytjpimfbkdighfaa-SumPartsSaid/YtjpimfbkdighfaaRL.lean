import Derived.Test.YtjpimfbkdighfaaRK
import Derived.Test.YtjpimfbkdighfaaOH
namespace Go.Proofs.Ytjpimfbkdighfaa
open Go.RowKit

set_option maxRecDepth 100000 in
set_option maxHeartbeats 1000000 in
theorem roots_walk (l : List (List Nat)) (v : Value) (w : World) (hv : Hs w v l) (hn : l.length ≤ 9223372036854775807) :
    Calls Try.prog 4 #[v] w fun e w' => e = .returned (.bool true) ∧ Qt w w' := by
  obtain ⟨va, vc, rfl⟩ : ∃ a c, v = .slice a l.length c := by obtain ⟨a, c, h, _⟩ := hv.rd; exact ⟨a, c, h⟩
  have HV := Lib.hid hv
  clear hv
  by_cases h40 : l.length ≤ 40
  · have d1 : ¬ (40 : Int) < (l.length : Int) := by omega
    go_enter Try.func4, Try.ntmps4
    go_wp2_with fail
    refine (lentHashes_any l _ w HV.out (by omega)).mono ?_
    rintro e w1 ⟨r, rfl, hr, q1⟩
    have HR := Lib.hid hr
    have Q1 := Lib.hid q1
    clear hr q1
    go_wp2_with fail
    refine (root_any l r w1 (by omega) HR.out.hs).mono ?_
    rintro e w2 ⟨rfl, q2⟩
    have Q2 := Lib.hid (Q1.out.trans q2)
    have HR2 := Lib.hid (HR.out.below q2)
    clear q2
    go_wp2_with fail
    refine (rootR_any l _ w2 (by omega) (HV.out.below Q2.out)).mono ?_
    rintro e w3 ⟨rfl, q3⟩
    have Q3 := Lib.hid (Q2.out.trans q3)
    have HR3 := Lib.hid (HR2.out.below q3)
    clear q3
    have heq := eqH32 (root l) (root_len _)
    generalize root l = S at *
    go_wp2_with fail
    refine (keptHashes_any l (by omega) _ r _ w3 HR3.out (HV.out.below Q3.out)).mono ?_
    rintro e w4 ⟨rfl, q4⟩
    have Q4 := Lib.hid (Q3.out.trans q4)
    clear q4
    go_wp2_with (go_at_call 8; refine (awake_any _).mono ?_; rintro e w5 ⟨rfl, q⟩; (have Q := Lib.hid q); clear q)
    go_ret
    exact ⟨rfl, Q4.out.trans Q.out⟩
  · have d1 : (40 : Int) < (l.length : Int) := by omega
    go_enter Try.func4, Try.ntmps4
    go_wp2_with (go_at_call 8; refine (awake_any _).mono ?_; rintro e w5 ⟨rfl, q⟩; (have Q := Lib.hid q); clear q)
    go_ret
    exact ⟨rfl, Q.out⟩
end Go.Proofs.Ytjpimfbkdighfaa
