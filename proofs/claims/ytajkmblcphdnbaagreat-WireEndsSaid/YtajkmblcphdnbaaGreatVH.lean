import Derived.Test.YtajkmblcphdnbaaGreatVG
import Derived.Test.YtajkmblcphdnbaaGreatVF
import Derived.Test.YtajkmblcphdnbaaGreatWHB
/-! Pick; a call. -/
namespace Go.Proofs.YtajkmblcphdnbaaGreat
open Go.RowKit
set_option linter.unusedVariables false
set_option linter.unusedSimpArgs false

theorem pick_any (x n : Int) (w : World) (hx0 : -9223372036854775808 ≤ x) (hx1 : x < 9223372036854775808) (hn : 1 ≤ n) (hn1 : n < 4611686018427387904) :
    Calls Tryz.prog 24 #[.int .i64 x, .int .i64 n] w fun e w' => e = .returned (.int .i64 (x % n)) ∧ w = w' := by
  have hr : -n < x.tmod n ∧ x.tmod n < n := by
    have h1 := Int.tmod_lt_of_pos x (show 0 < n by omega)
    have h2 := Int.lt_tmod_of_pos x (show 0 < n by omega)
    omega
  by_cases h : x.tmod n < 0
  · have e : x.tmod n + n = x % n := by
      have h1 := Int.emod_nonneg x (show n ≠ 0 by omega)
      have h2 := Int.emod_lt_of_pos x (show 0 < n by omega)
      have h3 : (x.tmod n - x % n) % n = 0 := by
        have := Int.tmod_eq_emod (a := x) (b := n)
        rw [this]
        split
        · simp
        · rw [show (x % n - (n.natAbs : Int)) - x % n = -(n.natAbs : Int) from by omega, Int.natAbs_of_nonneg (by omega)]; simp
      have h4 := Int.dvd_of_emod_eq_zero h3
      obtain ⟨c, hc⟩ := h4
      have : c = -1 := by
        have a1 : -2 * n < n * c := by omega
        have a2 : n * c < 0 := by omega
        have : c < 0 := by
          rcases Int.lt_or_le c 0 with h | h
          · exact h
          · have := Int.mul_nonneg (show (0 : Int) ≤ n by omega) h; omega
        have : -2 < c := by
          rcases Int.lt_or_le (-2) c with h | h
          · exact h
          · have := Int.mul_le_mul_of_nonneg_left h (show (0 : Int) ≤ n by omega); omega
        omega
      subst this
      omega
    have hwr : IntKind.i64.wrap (x.tmod n) = x.tmod n := IntWalk.i64_in _ (by omega)
    have hwr2 : IntKind.i64.wrap (x.tmod n + n) = x.tmod n + n := IntWalk.i64_in _ (by omega)
    rw [← e]
    clear e
    go_enter Tryz.func24, Tryz.ntmps24
    go_wp2
    go_ret
    exact ⟨rfl, rfl⟩
  · have e : x.tmod n = x % n := by
      have := Int.tmod_eq_emod (a := x) (b := n)
      rw [this] at h ⊢
      split
      · simp
      · have h2 := Int.emod_lt_of_pos x (show 0 < n by omega)
        rename_i hc
        rw [if_neg hc, Int.natAbs_of_nonneg (by omega)] at h
        omega
    have hwr : IntKind.i64.wrap (x.tmod n) = x.tmod n := IntWalk.i64_in _ (by omega)
    rw [← e]
    clear e
    go_enter Tryz.func24, Tryz.ntmps24
    go_wp2
    go_ret
    exact ⟨rfl, rfl⟩
end Go.Proofs.YtajkmblcphdnbaaGreat
