import Derived.Test.YtcobpbhmpolceaaPE3
import Derived.Test.YtcobpbhmpolceaaFA
/-! The paths of the reference's Add: printed by genadd.py. -/
namespace Go.Proofs.Ytcobpbhmpolceaa.Pure
open Go.RowKit Go.Proofs.Ytcobpbhmpolceaa.Ext Go.Proofs.Ytcobpbhmpolceaa.PE Go.Proofs.YtcobpbhmpolceaaW.PrintWords Go.Proofs.YtcobpbhmpolceaaW.PrintLast Go.Proofs.YtcobpbhmpolceaaW.PrintMore
set_option linter.unusedVariables false
set_option linter.unusedSimpArgs false

theorem setCell_drewN (w : World) (n : Nat) (a : Addr) (v : Value) : (w.drewN n).setCell a v = (w.setCell a v).drewN n := rfl
attribute [local go_sem] setCell_drewN
theorem qt_drewN {a b : World} (h : Qt a b) (n : Nat) : Qt a (b.drewN n) := ⟨h.os, h.tape, h.output, h.size, h.block⟩
theorem qt_alloc {a b : World} (h : Qt a b) (o : Obj) : Qt a (b.alloc o) := Below.alloc h h.size o

set_option maxRecDepth 100000 in
set_option maxHeartbeats 4000000 in
theorem add_nan_a (a b : Int) (w : World) (ha : decide (Go.bits .andNot .u64 a 9223372036854775808 > 9218868437227405312) = true) :
    Calls Try.prog 26 #[.int .u64 a, .int .u64 b] w fun e w' => e = .returned (.int .u64 9221120237041090560) ∧ Qt w w' := by
  have N1 : Hid (moidoreref03_none.f a = some true) := Lib.hid (by unfold moidoreref03_none.f; rw [ha])
  clear ha
  go_enter Try.func26, Try.ntmps26
  go_wp2_with (first
    | (go_at_call 52; (with_reducible refine (moidoreref03_none.calls a true _ N1.out).mono ?_); rintro e w1 ⟨rfl, ⟨nd, rfl⟩⟩))
  all_goals
    go_ret
    exact ⟨rfl, qt_drewN (Below.refl _ _) _⟩

set_option maxRecDepth 100000 in
set_option maxHeartbeats 4000000 in
theorem add_nan_b (a b : Int) (w : World) (ha : decide (Go.bits .andNot .u64 a 9223372036854775808 > 9218868437227405312) = false) (hb : decide (Go.bits .andNot .u64 b 9223372036854775808 > 9218868437227405312) = true) :
    Calls Try.prog 26 #[.int .u64 a, .int .u64 b] w fun e w' => e = .returned (.int .u64 9221120237041090560) ∧ Qt w w' := by
  have N1 : Hid (moidoreref03_none.f a = some false) := Lib.hid (by unfold moidoreref03_none.f; rw [ha])
  have N2 : Hid (moidoreref03_none.f b = some true) := Lib.hid (by unfold moidoreref03_none.f; rw [hb])
  clear ha hb
  go_enter Try.func26, Try.ntmps26
  go_wp2_with (first
    | (go_at_call 52; (with_reducible refine (moidoreref03_none.calls a false _ N1.out).mono ?_); rintro e w1 ⟨rfl, ⟨nd, rfl⟩⟩)
    | (go_at_call 52; (with_reducible refine (moidoreref03_none.calls b true _ N2.out).mono ?_); rintro e w1 ⟨rfl, ⟨nd, rfl⟩⟩))
  all_goals
    go_ret
    exact ⟨rfl, qt_drewN (Below.refl _ _) _⟩

set_option maxRecDepth 100000 in
set_option maxHeartbeats 4000000 in
theorem add_inf2 (a b : Int) (w : World) (ha : decide (Go.bits .andNot .u64 a 9223372036854775808 > 9218868437227405312) = false) (hb : decide (Go.bits .andNot .u64 b 9223372036854775808 > 9218868437227405312) = false) (ia : (Go.bits .andNot .u64 a 9223372036854775808 == 9218868437227405312) = true) (ib : (Go.bits .andNot .u64 b 9223372036854775808 == 9218868437227405312) = true) (ne : (a != b) = true) :
    Calls Try.prog 26 #[.int .u64 a, .int .u64 b] w fun e w' => e = .returned (.int .u64 9221120237041090560) ∧ Qt w w' := by
  have N1 : Hid (moidoreref03_none.f a = some false) := Lib.hid (by unfold moidoreref03_none.f; rw [ha])
  have N2 : Hid (moidoreref03_none.f b = some false) := Lib.hid (by unfold moidoreref03_none.f; rw [hb])
  clear ha hb
  go_enter Try.func26, Try.ntmps26
  go_wp2_with (first
    | (go_at_call 52; (with_reducible refine (moidoreref03_none.calls a false _ N1.out).mono ?_); rintro e w1 ⟨rfl, ⟨nd, rfl⟩⟩)
    | (go_at_call 52; (with_reducible refine (moidoreref03_none.calls b false _ N2.out).mono ?_); rintro e w1 ⟨rfl, ⟨nd, rfl⟩⟩))
  all_goals
    go_ret
    exact ⟨rfl, qt_drewN (Below.refl _ _) _⟩

set_option maxRecDepth 100000 in
set_option maxHeartbeats 4000000 in
theorem add_inf_aa (a b : Int) (w : World) (ha : decide (Go.bits .andNot .u64 a 9223372036854775808 > 9218868437227405312) = false) (hb : decide (Go.bits .andNot .u64 b 9223372036854775808 > 9218868437227405312) = false) (ia : (Go.bits .andNot .u64 a 9223372036854775808 == 9218868437227405312) = true) (ib : (Go.bits .andNot .u64 b 9223372036854775808 == 9218868437227405312) = true) (ne : (a != b) = false) :
    Calls Try.prog 26 #[.int .u64 a, .int .u64 b] w fun e w' => e = .returned (.int .u64 a) ∧ Qt w w' := by
  have N1 : Hid (moidoreref03_none.f a = some false) := Lib.hid (by unfold moidoreref03_none.f; rw [ha])
  have N2 : Hid (moidoreref03_none.f b = some false) := Lib.hid (by unfold moidoreref03_none.f; rw [hb])
  clear ha hb
  go_enter Try.func26, Try.ntmps26
  go_wp2_with (first
    | (go_at_call 52; (with_reducible refine (moidoreref03_none.calls a false _ N1.out).mono ?_); rintro e w1 ⟨rfl, ⟨nd, rfl⟩⟩)
    | (go_at_call 52; (with_reducible refine (moidoreref03_none.calls b false _ N2.out).mono ?_); rintro e w1 ⟨rfl, ⟨nd, rfl⟩⟩))
  all_goals
    go_ret
    exact ⟨rfl, qt_drewN (Below.refl _ _) _⟩

set_option maxRecDepth 100000 in
set_option maxHeartbeats 4000000 in
theorem add_inf_a (a b : Int) (w : World) (ha : decide (Go.bits .andNot .u64 a 9223372036854775808 > 9218868437227405312) = false) (hb : decide (Go.bits .andNot .u64 b 9223372036854775808 > 9218868437227405312) = false) (ia : (Go.bits .andNot .u64 a 9223372036854775808 == 9218868437227405312) = true) (ib : (Go.bits .andNot .u64 b 9223372036854775808 == 9218868437227405312) = false) :
    Calls Try.prog 26 #[.int .u64 a, .int .u64 b] w fun e w' => e = .returned (.int .u64 a) ∧ Qt w w' := by
  have N1 : Hid (moidoreref03_none.f a = some false) := Lib.hid (by unfold moidoreref03_none.f; rw [ha])
  have N2 : Hid (moidoreref03_none.f b = some false) := Lib.hid (by unfold moidoreref03_none.f; rw [hb])
  clear ha hb
  go_enter Try.func26, Try.ntmps26
  go_wp2_with (first
    | (go_at_call 52; (with_reducible refine (moidoreref03_none.calls a false _ N1.out).mono ?_); rintro e w1 ⟨rfl, ⟨nd, rfl⟩⟩)
    | (go_at_call 52; (with_reducible refine (moidoreref03_none.calls b false _ N2.out).mono ?_); rintro e w1 ⟨rfl, ⟨nd, rfl⟩⟩))
  all_goals
    go_ret
    exact ⟨rfl, qt_drewN (Below.refl _ _) _⟩

set_option maxRecDepth 100000 in
set_option maxHeartbeats 4000000 in
theorem add_inf_b (a b : Int) (w : World) (ha : decide (Go.bits .andNot .u64 a 9223372036854775808 > 9218868437227405312) = false) (hb : decide (Go.bits .andNot .u64 b 9223372036854775808 > 9218868437227405312) = false) (ia : (Go.bits .andNot .u64 a 9223372036854775808 == 9218868437227405312) = false) (ib : (Go.bits .andNot .u64 b 9223372036854775808 == 9218868437227405312) = true) :
    Calls Try.prog 26 #[.int .u64 a, .int .u64 b] w fun e w' => e = .returned (.int .u64 b) ∧ Qt w w' := by
  have N1 : Hid (moidoreref03_none.f a = some false) := Lib.hid (by unfold moidoreref03_none.f; rw [ha])
  have N2 : Hid (moidoreref03_none.f b = some false) := Lib.hid (by unfold moidoreref03_none.f; rw [hb])
  clear ha hb
  go_enter Try.func26, Try.ntmps26
  go_wp2_with (first
    | (go_at_call 52; (with_reducible refine (moidoreref03_none.calls a false _ N1.out).mono ?_); rintro e w1 ⟨rfl, ⟨nd, rfl⟩⟩)
    | (go_at_call 52; (with_reducible refine (moidoreref03_none.calls b false _ N2.out).mono ?_); rintro e w1 ⟨rfl, ⟨nd, rfl⟩⟩))
  all_goals
    go_ret
    exact ⟨rfl, qt_drewN (Below.refl _ _) _⟩

set_option maxRecDepth 100000 in
set_option maxHeartbeats 4000000 in
theorem add_zero (a b : Int) (w : World) (ha : decide (Go.bits .andNot .u64 a 9223372036854775808 > 9218868437227405312) = false) (hb : decide (Go.bits .andNot .u64 b 9223372036854775808 > 9218868437227405312) = false) (ia : (Go.bits .andNot .u64 a 9223372036854775808 == 9218868437227405312) = false) (ib : (Go.bits .andNot .u64 b 9223372036854775808 == 9218868437227405312) = false) (za : (Go.bits .andNot .u64 a 9223372036854775808 == 0) = true) (zb : (Go.bits .andNot .u64 b 9223372036854775808 == 0) = true) :
    Calls Try.prog 26 #[.int .u64 a, .int .u64 b] w fun e w' => e = .returned (.int .u64 (Go.bits .and .u64 a b)) ∧ Qt w w' := by
  have N1 : Hid (moidoreref03_none.f a = some false) := Lib.hid (by unfold moidoreref03_none.f; rw [ha])
  have N2 : Hid (moidoreref03_none.f b = some false) := Lib.hid (by unfold moidoreref03_none.f; rw [hb])
  clear ha hb
  go_enter Try.func26, Try.ntmps26
  go_wp2_with (first
    | (go_at_call 52; (with_reducible refine (moidoreref03_none.calls a false _ N1.out).mono ?_); rintro e w1 ⟨rfl, ⟨nd, rfl⟩⟩)
    | (go_at_call 52; (with_reducible refine (moidoreref03_none.calls b false _ N2.out).mono ?_); rintro e w1 ⟨rfl, ⟨nd, rfl⟩⟩))
  all_goals
    go_ret
    exact ⟨rfl, qt_drewN (Below.refl _ _) _⟩

set_option maxRecDepth 100000 in
set_option maxHeartbeats 4000000 in
theorem add_nc_samea (a b : Int) (w : World) (s : Bool) (m n E1 E2 hi lo lo2 c r : Int) (k : Nat) (ha : decide (Go.bits .andNot .u64 a 9223372036854775808 > 9218868437227405312) = false) (hb : decide (Go.bits .andNot .u64 b 9223372036854775808 > 9218868437227405312) = false) (ia : (Go.bits .andNot .u64 a 9223372036854775808 == 9218868437227405312) = false) (ib : (Go.bits .andNot .u64 b 9223372036854775808 == 9218868437227405312) = false) (za : (Go.bits .andNot .u64 a 9223372036854775808 == 0) = false) (o1 : moidoreref03_open.f a = some (s, 0, m, E1, false)) (o2 : moidoreref03_open.f b = some (s, 0, n, E2, false)) (h1 : E2 ≤ E1) (h2 : E1 - E2 ≤ 64) (e1 : -2000 ≤ E1) (e2 : -2000 ≤ E2) (e3 : E1 ≤ 2000) (e4 : E2 ≤ 2000) (hl : moidoreref03_left.f 0 m (E1 - E2) = some (hi, lo)) (hx : bits_Add64.f lo n 0 = some (lo2, c)) (hr : moidoreref03_rounded.f k s (IntKind.u64.wrap (hi + c)) lo2 E2 false = some r) :
    Calls Try.prog 26 #[.int .u64 a, .int .u64 b] w fun e w' => e = .returned (.int .u64 r) ∧ Qt w w' := by
  have N1 : Hid (moidoreref03_none.f a = some false) := Lib.hid (by unfold moidoreref03_none.f; rw [ha])
  have N2 : Hid (moidoreref03_none.f b = some false) := Lib.hid (by unfold moidoreref03_none.f; rw [hb])
  have O1 := Lib.hid o1
  have O2 := Lib.hid o2
  have HL := Lib.hid hl
  have HR := Lib.hid hr
  have hx := bits_Add64.run _ _ _ _ _ hx
  clear ha hb o1 o2 hl hr
  go_enter Try.func26, Try.ntmps26
  go_wp2_with (first
    | (go_at_call 52; (with_reducible refine (moidoreref03_none.calls a false _ N1.out).mono ?_); rintro e w1 ⟨rfl, ⟨nd, rfl⟩⟩)
    | (go_at_call 52; (with_reducible refine (moidoreref03_none.calls b false _ N2.out).mono ?_); rintro e w1 ⟨rfl, ⟨nd, rfl⟩⟩)
    | (go_at_call 49; (with_reducible refine (moidoreref03_open.calls a _ _ _ _ _ _ O1.out).mono ?_); rintro e w1 ⟨rfl, q1⟩; have Q1 := Lib.hid q1; clear q1)
    | (go_at_call 49; (with_reducible refine (moidoreref03_open.calls b _ _ _ _ _ _ O2.out).mono ?_); rintro e w2 ⟨rfl, q2⟩; have Q2 := Lib.hid q2; clear q2)
    | (go_at_call 51; (with_reducible refine (moidoreref03_left.calls 0 m (E1 - E2) _ _ _ HL.out).mono ?_); rintro e w3 ⟨rfl, ⟨nd3, rfl⟩⟩)
    | (go_at_call 54; (with_reducible refine (moidoreref03_rounded.calls k s _ _ _ _ _ _ HR.out).mono ?_); rintro e w4 ⟨rfl, q4⟩; have Q4 := Lib.hid q4; clear q4))
  go_ret
  exact ⟨rfl, Qt.trans (qt_drewN (qt_alloc (qt_alloc (qt_alloc (Below.trans (Qt.trans (qt_drewN (Below.refl _ _) _) Q1.out) (Below.mono Q2.out (Below.size (Qt.trans (qt_drewN (Below.refl _ _) _) Q1.out)))) _) _) _) _) Q4.out⟩

set_option maxRecDepth 100000 in
set_option maxHeartbeats 4000000 in
theorem add_nc_lta (a b : Int) (w : World) (s t : Bool) (m n E1 E2 hi lo lo2 c r : Int) (k : Nat) (ha : decide (Go.bits .andNot .u64 a 9223372036854775808 > 9218868437227405312) = false) (hb : decide (Go.bits .andNot .u64 b 9223372036854775808 > 9218868437227405312) = false) (ia : (Go.bits .andNot .u64 a 9223372036854775808 == 9218868437227405312) = false) (ib : (Go.bits .andNot .u64 b 9223372036854775808 == 9218868437227405312) = false) (za : (Go.bits .andNot .u64 a 9223372036854775808 == 0) = false) (o1 : moidoreref03_open.f a = some (s, 0, m, E1, false)) (o2 : moidoreref03_open.f b = some (t, 0, n, E2, false)) (h1 : E2 ≤ E1) (h2 : E1 - E2 ≤ 64) (e1 : -2000 ≤ E1) (e2 : -2000 ≤ E2) (e3 : E1 ≤ 2000) (e4 : E2 ≤ 2000) (hl : moidoreref03_left.f 0 m (E1 - E2) = some (hi, lo)) (ne : (s == t) = false) (hi0 : hi = 0) (hlt : lo < n) (hr : moidoreref03_rounded.f k t 0 (IntKind.u64.wrap (n - lo)) E2 false = some r) :
    Calls Try.prog 26 #[.int .u64 a, .int .u64 b] w fun e w' => e = .returned (.int .u64 r) ∧ Qt w w' := by
  have N1 : Hid (moidoreref03_none.f a = some false) := Lib.hid (by unfold moidoreref03_none.f; rw [ha])
  have N2 : Hid (moidoreref03_none.f b = some false) := Lib.hid (by unfold moidoreref03_none.f; rw [hb])
  have O1 := Lib.hid o1
  have O2 := Lib.hid o2
  have HL := Lib.hid hl
  have HR := Lib.hid hr
  subst hi0
  clear ha hb o1 o2 hl hr
  go_enter Try.func26, Try.ntmps26
  go_wp2_with (first
    | (go_at_call 52; (with_reducible refine (moidoreref03_none.calls a false _ N1.out).mono ?_); rintro e w1 ⟨rfl, ⟨nd, rfl⟩⟩)
    | (go_at_call 52; (with_reducible refine (moidoreref03_none.calls b false _ N2.out).mono ?_); rintro e w1 ⟨rfl, ⟨nd, rfl⟩⟩)
    | (go_at_call 49; (with_reducible refine (moidoreref03_open.calls a _ _ _ _ _ _ O1.out).mono ?_); rintro e w1 ⟨rfl, q1⟩; have Q1 := Lib.hid q1; clear q1)
    | (go_at_call 49; (with_reducible refine (moidoreref03_open.calls b _ _ _ _ _ _ O2.out).mono ?_); rintro e w2 ⟨rfl, q2⟩; have Q2 := Lib.hid q2; clear q2)
    | (go_at_call 51; (with_reducible refine (moidoreref03_left.calls 0 m (E1 - E2) _ _ _ HL.out).mono ?_); rintro e w3 ⟨rfl, ⟨nd3, rfl⟩⟩)
    | (go_at_call 54; (with_reducible refine (moidoreref03_rounded.calls k t _ _ _ _ _ _ HR.out).mono ?_); rintro e w4 ⟨rfl, q4⟩; have Q4 := Lib.hid q4; clear q4))
  go_ret
  exact ⟨rfl, Qt.trans (qt_drewN (qt_alloc (qt_alloc (qt_alloc (Below.trans (Qt.trans (qt_drewN (Below.refl _ _) _) Q1.out) (Below.mono Q2.out (Below.size (Qt.trans (qt_drewN (Below.refl _ _) _) Q1.out)))) _) _) _) _) Q4.out⟩

set_option maxRecDepth 100000 in
set_option maxHeartbeats 4000000 in
theorem add_nc_zeroa (a b : Int) (w : World) (s t : Bool) (m n E1 E2 hi lo lo2 c r : Int) (k : Nat) (ha : decide (Go.bits .andNot .u64 a 9223372036854775808 > 9218868437227405312) = false) (hb : decide (Go.bits .andNot .u64 b 9223372036854775808 > 9218868437227405312) = false) (ia : (Go.bits .andNot .u64 a 9223372036854775808 == 9218868437227405312) = false) (ib : (Go.bits .andNot .u64 b 9223372036854775808 == 9218868437227405312) = false) (za : (Go.bits .andNot .u64 a 9223372036854775808 == 0) = false) (o1 : moidoreref03_open.f a = some (s, 0, m, E1, false)) (o2 : moidoreref03_open.f b = some (t, 0, n, E2, false)) (h1 : E2 ≤ E1) (h2 : E1 - E2 ≤ 64) (e1 : -2000 ≤ E1) (e2 : -2000 ≤ E2) (e3 : E1 ≤ 2000) (e4 : E2 ≤ 2000) (hl : moidoreref03_left.f 0 m (E1 - E2) = some (hi, lo)) (ne : (s == t) = false) (hge : (hi == 0) = false ∨ ((hi == 0) = true ∧ n ≤ lo)) (hx : bits_Sub64.f lo n 0 = some (lo2, c)) (hz : (IntKind.u64.wrap (hi - c) == 0) = true) (lz : (lo2 == 0) = true) :
    Calls Try.prog 26 #[.int .u64 a, .int .u64 b] w fun e w' => e = .returned (.int .u64 0) ∧ Qt w w' := by
  have N1 : Hid (moidoreref03_none.f a = some false) := Lib.hid (by unfold moidoreref03_none.f; rw [ha])
  have N2 : Hid (moidoreref03_none.f b = some false) := Lib.hid (by unfold moidoreref03_none.f; rw [hb])
  have O1 := Lib.hid o1
  have O2 := Lib.hid o2
  have HL := Lib.hid hl
  have hx := bits_Sub64.run _ _ _ _ _ hx
  clear ha hb o1 o2 hl
  rcases hge with hge | ⟨hge, hge2⟩
  all_goals
    go_enter Try.func26, Try.ntmps26
    go_wp2_with (first
      | (go_at_call 52; (with_reducible refine (moidoreref03_none.calls a false _ N1.out).mono ?_); rintro e w1 ⟨rfl, ⟨nd, rfl⟩⟩)
      | (go_at_call 52; (with_reducible refine (moidoreref03_none.calls b false _ N2.out).mono ?_); rintro e w1 ⟨rfl, ⟨nd, rfl⟩⟩)
      | (go_at_call 49; (with_reducible refine (moidoreref03_open.calls a _ _ _ _ _ _ O1.out).mono ?_); rintro e w1 ⟨rfl, q1⟩; have Q1 := Lib.hid q1; clear q1)
      | (go_at_call 49; (with_reducible refine (moidoreref03_open.calls b _ _ _ _ _ _ O2.out).mono ?_); rintro e w2 ⟨rfl, q2⟩; have Q2 := Lib.hid q2; clear q2)
      | (go_at_call 51; (with_reducible refine (moidoreref03_left.calls 0 m (E1 - E2) _ _ _ HL.out).mono ?_); rintro e w3 ⟨rfl, ⟨nd3, rfl⟩⟩))
    go_ret
    exact ⟨rfl, (qt_drewN (qt_alloc (qt_alloc (qt_alloc (Below.trans (Qt.trans (qt_drewN (Below.refl _ _) _) Q1.out) (Below.mono Q2.out (Below.size (Qt.trans (qt_drewN (Below.refl _ _) _) Q1.out)))) _) _) _) _)⟩

set_option maxRecDepth 100000 in
set_option maxHeartbeats 4000000 in
theorem add_nc_hia (a b : Int) (w : World) (s t : Bool) (m n E1 E2 hi lo lo2 c r : Int) (k : Nat) (ha : decide (Go.bits .andNot .u64 a 9223372036854775808 > 9218868437227405312) = false) (hb : decide (Go.bits .andNot .u64 b 9223372036854775808 > 9218868437227405312) = false) (ia : (Go.bits .andNot .u64 a 9223372036854775808 == 9218868437227405312) = false) (ib : (Go.bits .andNot .u64 b 9223372036854775808 == 9218868437227405312) = false) (za : (Go.bits .andNot .u64 a 9223372036854775808 == 0) = false) (o1 : moidoreref03_open.f a = some (s, 0, m, E1, false)) (o2 : moidoreref03_open.f b = some (t, 0, n, E2, false)) (h1 : E2 ≤ E1) (h2 : E1 - E2 ≤ 64) (e1 : -2000 ≤ E1) (e2 : -2000 ≤ E2) (e3 : E1 ≤ 2000) (e4 : E2 ≤ 2000) (hl : moidoreref03_left.f 0 m (E1 - E2) = some (hi, lo)) (ne : (s == t) = false) (hge : (hi == 0) = false ∨ ((hi == 0) = true ∧ n ≤ lo)) (hx : bits_Sub64.f lo n 0 = some (lo2, c)) (hz : (IntKind.u64.wrap (hi - c) == 0) = false) (hr : moidoreref03_rounded.f k s (IntKind.u64.wrap (hi - c)) lo2 E2 false = some r) :
    Calls Try.prog 26 #[.int .u64 a, .int .u64 b] w fun e w' => e = .returned (.int .u64 r) ∧ Qt w w' := by
  have N1 : Hid (moidoreref03_none.f a = some false) := Lib.hid (by unfold moidoreref03_none.f; rw [ha])
  have N2 : Hid (moidoreref03_none.f b = some false) := Lib.hid (by unfold moidoreref03_none.f; rw [hb])
  have O1 := Lib.hid o1
  have O2 := Lib.hid o2
  have HL := Lib.hid hl
  have HR := Lib.hid hr
  have hx := bits_Sub64.run _ _ _ _ _ hx
  clear ha hb o1 o2 hl hr
  rcases hge with hge | ⟨hge, hge2⟩
  all_goals
    go_enter Try.func26, Try.ntmps26
    go_wp2_with (first
      | (go_at_call 52; (with_reducible refine (moidoreref03_none.calls a false _ N1.out).mono ?_); rintro e w1 ⟨rfl, ⟨nd, rfl⟩⟩)
      | (go_at_call 52; (with_reducible refine (moidoreref03_none.calls b false _ N2.out).mono ?_); rintro e w1 ⟨rfl, ⟨nd, rfl⟩⟩)
      | (go_at_call 49; (with_reducible refine (moidoreref03_open.calls a _ _ _ _ _ _ O1.out).mono ?_); rintro e w1 ⟨rfl, q1⟩; have Q1 := Lib.hid q1; clear q1)
      | (go_at_call 49; (with_reducible refine (moidoreref03_open.calls b _ _ _ _ _ _ O2.out).mono ?_); rintro e w2 ⟨rfl, q2⟩; have Q2 := Lib.hid q2; clear q2)
      | (go_at_call 51; (with_reducible refine (moidoreref03_left.calls 0 m (E1 - E2) _ _ _ HL.out).mono ?_); rintro e w3 ⟨rfl, ⟨nd3, rfl⟩⟩)
      | (go_at_call 54; (with_reducible refine (moidoreref03_rounded.calls k s _ _ _ _ _ _ HR.out).mono ?_); rintro e w4 ⟨rfl, q4⟩; have Q4 := Lib.hid q4; clear q4))
    go_ret
    exact ⟨rfl, Qt.trans (qt_drewN (qt_alloc (qt_alloc (qt_alloc (Below.trans (Qt.trans (qt_drewN (Below.refl _ _) _) Q1.out) (Below.mono Q2.out (Below.size (Qt.trans (qt_drewN (Below.refl _ _) _) Q1.out)))) _) _) _) _) Q4.out⟩

set_option maxRecDepth 100000 in
set_option maxHeartbeats 4000000 in
theorem add_nc_loa (a b : Int) (w : World) (s t : Bool) (m n E1 E2 hi lo lo2 c r : Int) (k : Nat) (ha : decide (Go.bits .andNot .u64 a 9223372036854775808 > 9218868437227405312) = false) (hb : decide (Go.bits .andNot .u64 b 9223372036854775808 > 9218868437227405312) = false) (ia : (Go.bits .andNot .u64 a 9223372036854775808 == 9218868437227405312) = false) (ib : (Go.bits .andNot .u64 b 9223372036854775808 == 9218868437227405312) = false) (za : (Go.bits .andNot .u64 a 9223372036854775808 == 0) = false) (o1 : moidoreref03_open.f a = some (s, 0, m, E1, false)) (o2 : moidoreref03_open.f b = some (t, 0, n, E2, false)) (h1 : E2 ≤ E1) (h2 : E1 - E2 ≤ 64) (e1 : -2000 ≤ E1) (e2 : -2000 ≤ E2) (e3 : E1 ≤ 2000) (e4 : E2 ≤ 2000) (hl : moidoreref03_left.f 0 m (E1 - E2) = some (hi, lo)) (ne : (s == t) = false) (hge : (hi == 0) = false ∨ ((hi == 0) = true ∧ n ≤ lo)) (hx : bits_Sub64.f lo n 0 = some (lo2, c)) (hz : (IntKind.u64.wrap (hi - c) == 0) = true) (lz : (lo2 == 0) = false) (hr : moidoreref03_rounded.f k s (IntKind.u64.wrap (hi - c)) lo2 E2 false = some r) :
    Calls Try.prog 26 #[.int .u64 a, .int .u64 b] w fun e w' => e = .returned (.int .u64 r) ∧ Qt w w' := by
  have N1 : Hid (moidoreref03_none.f a = some false) := Lib.hid (by unfold moidoreref03_none.f; rw [ha])
  have N2 : Hid (moidoreref03_none.f b = some false) := Lib.hid (by unfold moidoreref03_none.f; rw [hb])
  have O1 := Lib.hid o1
  have O2 := Lib.hid o2
  have HL := Lib.hid hl
  have HR := Lib.hid hr
  have hx := bits_Sub64.run _ _ _ _ _ hx
  clear ha hb o1 o2 hl hr
  rcases hge with hge | ⟨hge, hge2⟩
  all_goals
    go_enter Try.func26, Try.ntmps26
    go_wp2_with (first
      | (go_at_call 52; (with_reducible refine (moidoreref03_none.calls a false _ N1.out).mono ?_); rintro e w1 ⟨rfl, ⟨nd, rfl⟩⟩)
      | (go_at_call 52; (with_reducible refine (moidoreref03_none.calls b false _ N2.out).mono ?_); rintro e w1 ⟨rfl, ⟨nd, rfl⟩⟩)
      | (go_at_call 49; (with_reducible refine (moidoreref03_open.calls a _ _ _ _ _ _ O1.out).mono ?_); rintro e w1 ⟨rfl, q1⟩; have Q1 := Lib.hid q1; clear q1)
      | (go_at_call 49; (with_reducible refine (moidoreref03_open.calls b _ _ _ _ _ _ O2.out).mono ?_); rintro e w2 ⟨rfl, q2⟩; have Q2 := Lib.hid q2; clear q2)
      | (go_at_call 51; (with_reducible refine (moidoreref03_left.calls 0 m (E1 - E2) _ _ _ HL.out).mono ?_); rintro e w3 ⟨rfl, ⟨nd3, rfl⟩⟩)
      | (go_at_call 54; (with_reducible refine (moidoreref03_rounded.calls k s _ _ _ _ _ _ HR.out).mono ?_); rintro e w4 ⟨rfl, q4⟩; have Q4 := Lib.hid q4; clear q4))
    go_ret
    exact ⟨rfl, Qt.trans (qt_drewN (qt_alloc (qt_alloc (qt_alloc (Below.trans (Qt.trans (qt_drewN (Below.refl _ _) _) Q1.out) (Below.mono Q2.out (Below.size (Qt.trans (qt_drewN (Below.refl _ _) _) Q1.out)))) _) _) _) _) Q4.out⟩

set_option maxRecDepth 100000 in
set_option maxHeartbeats 4000000 in
theorem add_nf_samea (a b : Int) (w : World) (s : Bool) (m n E1 E2 hi lo lo2 c r : Int) (k : Nat) (z my : Int) (more : Bool) (ha : decide (Go.bits .andNot .u64 a 9223372036854775808 > 9218868437227405312) = false) (hb : decide (Go.bits .andNot .u64 b 9223372036854775808 > 9218868437227405312) = false) (ia : (Go.bits .andNot .u64 a 9223372036854775808 == 9218868437227405312) = false) (ib : (Go.bits .andNot .u64 b 9223372036854775808 == 9218868437227405312) = false) (za : (Go.bits .andNot .u64 a 9223372036854775808 == 0) = false) (o1 : moidoreref03_open.f a = some (s, 0, m, E1, false)) (o2 : moidoreref03_open.f b = some (s, 0, n, E2, false)) (h1 : E2 ≤ E1) (h2 : 64 < E1 - E2) (e1 : -2000 ≤ E1) (e2 : -2000 ≤ E2) (e3 : E1 ≤ 2000) (e4 : E2 ≤ 2000) (hri : moidoreref03_right.f 0 n (E1 - E2 - 64) = some (z, my, more)) (hl : moidoreref03_left.f 0 m 64 = some (hi, lo)) (hx : bits_Add64.f lo my 0 = some (lo2, c)) (hr : moidoreref03_rounded.f k s (IntKind.u64.wrap (hi + c)) lo2 (E1 - 64) more = some r) :
    Calls Try.prog 26 #[.int .u64 a, .int .u64 b] w fun e w' => e = .returned (.int .u64 r) ∧ Qt w w' := by
  have N1 : Hid (moidoreref03_none.f a = some false) := Lib.hid (by unfold moidoreref03_none.f; rw [ha])
  have N2 : Hid (moidoreref03_none.f b = some false) := Lib.hid (by unfold moidoreref03_none.f; rw [hb])
  have O1 := Lib.hid o1
  have O2 := Lib.hid o2
  have HL := Lib.hid hl
  have HI := Lib.hid hri
  have HR := Lib.hid hr
  have hx := bits_Add64.run _ _ _ _ _ hx
  clear ha hb o1 o2 hl hri hr
  go_enter Try.func26, Try.ntmps26
  go_wp2_with (first
    | (go_at_call 52; (with_reducible refine (moidoreref03_none.calls a false _ N1.out).mono ?_); rintro e w1 ⟨rfl, ⟨nd, rfl⟩⟩)
    | (go_at_call 52; (with_reducible refine (moidoreref03_none.calls b false _ N2.out).mono ?_); rintro e w1 ⟨rfl, ⟨nd, rfl⟩⟩)
    | (go_at_call 49; (with_reducible refine (moidoreref03_open.calls a _ _ _ _ _ _ O1.out).mono ?_); rintro e w1 ⟨rfl, q1⟩; have Q1 := Lib.hid q1; clear q1)
    | (go_at_call 49; (with_reducible refine (moidoreref03_open.calls b _ _ _ _ _ _ O2.out).mono ?_); rintro e w2 ⟨rfl, q2⟩; have Q2 := Lib.hid q2; clear q2)
    | (go_at_call 50; (with_reducible refine (moidoreref03_right.calls 0 n (E1 - E2 - 64) _ _ _ _ HI.out).mono ?_); rintro e w3 ⟨rfl, ⟨nd3, rfl⟩⟩)
    | (go_at_call 51; (with_reducible refine (moidoreref03_left.calls 0 m 64 _ _ _ HL.out).mono ?_); rintro e w3 ⟨rfl, ⟨nd3, rfl⟩⟩)
    | (go_at_call 54; (with_reducible refine (moidoreref03_rounded.calls k s _ _ _ _ _ _ HR.out).mono ?_); rintro e w4 ⟨rfl, q4⟩; have Q4 := Lib.hid q4; clear q4))
  go_ret
  exact ⟨rfl, Qt.trans (qt_drewN (qt_alloc (qt_alloc (qt_alloc (Below.trans (Qt.trans (qt_drewN (Below.refl _ _) _) Q1.out) (Below.mono Q2.out (Below.size (Qt.trans (qt_drewN (Below.refl _ _) _) Q1.out)))) _) _) _) _) Q4.out⟩

set_option maxRecDepth 100000 in
set_option maxHeartbeats 4000000 in
theorem add_nf_hia (a b : Int) (w : World) (s t : Bool) (m n E1 E2 hi lo lo2 c r : Int) (k : Nat) (z my : Int) (ha : decide (Go.bits .andNot .u64 a 9223372036854775808 > 9218868437227405312) = false) (hb : decide (Go.bits .andNot .u64 b 9223372036854775808 > 9218868437227405312) = false) (ia : (Go.bits .andNot .u64 a 9223372036854775808 == 9218868437227405312) = false) (ib : (Go.bits .andNot .u64 b 9223372036854775808 == 9218868437227405312) = false) (za : (Go.bits .andNot .u64 a 9223372036854775808 == 0) = false) (o1 : moidoreref03_open.f a = some (s, 0, m, E1, false)) (o2 : moidoreref03_open.f b = some (t, 0, n, E2, false)) (h1 : E2 ≤ E1) (h2 : 64 < E1 - E2) (e1 : -2000 ≤ E1) (e2 : -2000 ≤ E2) (e3 : E1 ≤ 2000) (e4 : E2 ≤ 2000) (hri : moidoreref03_right.f 0 n (E1 - E2 - 64) = some (z, my, false)) (hl : moidoreref03_left.f 0 m 64 = some (hi, lo)) (ne : (s == t) = false) (hge : (hi == 0) = false ∨ ((hi == 0) = true ∧ my ≤ lo)) (hx : bits_Sub64.f lo my 0 = some (lo2, c)) (hz : (IntKind.u64.wrap (hi - c) == 0) = false) (hr : moidoreref03_rounded.f k s (IntKind.u64.wrap (hi - c)) lo2 (E1 - 64) false = some r) :
    Calls Try.prog 26 #[.int .u64 a, .int .u64 b] w fun e w' => e = .returned (.int .u64 r) ∧ Qt w w' := by
  have N1 : Hid (moidoreref03_none.f a = some false) := Lib.hid (by unfold moidoreref03_none.f; rw [ha])
  have N2 : Hid (moidoreref03_none.f b = some false) := Lib.hid (by unfold moidoreref03_none.f; rw [hb])
  have O1 := Lib.hid o1
  have O2 := Lib.hid o2
  have HL := Lib.hid hl
  have HI := Lib.hid hri
  have HR := Lib.hid hr
  have hx := bits_Sub64.run _ _ _ _ _ hx
  clear ha hb o1 o2 hl hri hr
  rcases hge with hge | ⟨hge, hge2⟩
  all_goals
    go_enter Try.func26, Try.ntmps26
    go_wp2_with (first
      | (go_at_call 52; (with_reducible refine (moidoreref03_none.calls a false _ N1.out).mono ?_); rintro e w1 ⟨rfl, ⟨nd, rfl⟩⟩)
      | (go_at_call 52; (with_reducible refine (moidoreref03_none.calls b false _ N2.out).mono ?_); rintro e w1 ⟨rfl, ⟨nd, rfl⟩⟩)
      | (go_at_call 49; (with_reducible refine (moidoreref03_open.calls a _ _ _ _ _ _ O1.out).mono ?_); rintro e w1 ⟨rfl, q1⟩; have Q1 := Lib.hid q1; clear q1)
      | (go_at_call 49; (with_reducible refine (moidoreref03_open.calls b _ _ _ _ _ _ O2.out).mono ?_); rintro e w2 ⟨rfl, q2⟩; have Q2 := Lib.hid q2; clear q2)
      | (go_at_call 50; (with_reducible refine (moidoreref03_right.calls 0 n (E1 - E2 - 64) _ _ _ _ HI.out).mono ?_); rintro e w3 ⟨rfl, ⟨nd3, rfl⟩⟩)
      | (go_at_call 51; (with_reducible refine (moidoreref03_left.calls 0 m 64 _ _ _ HL.out).mono ?_); rintro e w3 ⟨rfl, ⟨nd3, rfl⟩⟩)
      | (go_at_call 54; (with_reducible refine (moidoreref03_rounded.calls k s _ _ _ _ _ _ HR.out).mono ?_); rintro e w4 ⟨rfl, q4⟩; have Q4 := Lib.hid q4; clear q4))
    go_ret
    exact ⟨rfl, Qt.trans (qt_drewN (qt_alloc (qt_alloc (qt_alloc (Below.trans (Qt.trans (qt_drewN (Below.refl _ _) _) Q1.out) (Below.mono Q2.out (Below.size (Qt.trans (qt_drewN (Below.refl _ _) _) Q1.out)))) _) _) _) _) Q4.out⟩

set_option maxRecDepth 100000 in
set_option maxHeartbeats 4000000 in
theorem add_nf_morea (a b : Int) (w : World) (s t : Bool) (m n E1 E2 hi lo lo2 c r : Int) (k : Nat) (z my : Int) (lo3 c3 : Int) (ha : decide (Go.bits .andNot .u64 a 9223372036854775808 > 9218868437227405312) = false) (hb : decide (Go.bits .andNot .u64 b 9223372036854775808 > 9218868437227405312) = false) (ia : (Go.bits .andNot .u64 a 9223372036854775808 == 9218868437227405312) = false) (ib : (Go.bits .andNot .u64 b 9223372036854775808 == 9218868437227405312) = false) (za : (Go.bits .andNot .u64 a 9223372036854775808 == 0) = false) (o1 : moidoreref03_open.f a = some (s, 0, m, E1, false)) (o2 : moidoreref03_open.f b = some (t, 0, n, E2, false)) (h1 : E2 ≤ E1) (h2 : 64 < E1 - E2) (e1 : -2000 ≤ E1) (e2 : -2000 ≤ E2) (e3 : E1 ≤ 2000) (e4 : E2 ≤ 2000) (hri : moidoreref03_right.f 0 n (E1 - E2 - 64) = some (z, my, true)) (hl : moidoreref03_left.f 0 m 64 = some (hi, lo)) (ne : (s == t) = false) (hge : (hi == 0) = false ∨ ((hi == 0) = true ∧ my ≤ lo)) (hx : bits_Sub64.f lo my 0 = some (lo2, c)) (hx3 : bits_Sub64.f lo2 1 0 = some (lo3, c3)) (hnz : (IntKind.u64.wrap (IntKind.u64.wrap (hi - c) - c3) == 0) = false) (hr : moidoreref03_rounded.f k s (IntKind.u64.wrap (IntKind.u64.wrap (hi - c) - c3)) lo3 (E1 - 64) true = some r) :
    Calls Try.prog 26 #[.int .u64 a, .int .u64 b] w fun e w' => e = .returned (.int .u64 r) ∧ Qt w w' := by
  have N1 : Hid (moidoreref03_none.f a = some false) := Lib.hid (by unfold moidoreref03_none.f; rw [ha])
  have N2 : Hid (moidoreref03_none.f b = some false) := Lib.hid (by unfold moidoreref03_none.f; rw [hb])
  have O1 := Lib.hid o1
  have O2 := Lib.hid o2
  have HL := Lib.hid hl
  have HI := Lib.hid hri
  have HR := Lib.hid hr
  have hx := bits_Sub64.run _ _ _ _ _ hx
  have hx3 := bits_Sub64.run _ _ _ _ _ hx3
  clear ha hb o1 o2 hl hri hr
  rcases hge with hge | ⟨hge, hge2⟩
  all_goals
    go_enter Try.func26, Try.ntmps26
    go_wp2_with (first
      | (go_at_call 52; (with_reducible refine (moidoreref03_none.calls a false _ N1.out).mono ?_); rintro e w1 ⟨rfl, ⟨nd, rfl⟩⟩)
      | (go_at_call 52; (with_reducible refine (moidoreref03_none.calls b false _ N2.out).mono ?_); rintro e w1 ⟨rfl, ⟨nd, rfl⟩⟩)
      | (go_at_call 49; (with_reducible refine (moidoreref03_open.calls a _ _ _ _ _ _ O1.out).mono ?_); rintro e w1 ⟨rfl, q1⟩; have Q1 := Lib.hid q1; clear q1)
      | (go_at_call 49; (with_reducible refine (moidoreref03_open.calls b _ _ _ _ _ _ O2.out).mono ?_); rintro e w2 ⟨rfl, q2⟩; have Q2 := Lib.hid q2; clear q2)
      | (go_at_call 50; (with_reducible refine (moidoreref03_right.calls 0 n (E1 - E2 - 64) _ _ _ _ HI.out).mono ?_); rintro e w3 ⟨rfl, ⟨nd3, rfl⟩⟩)
      | (go_at_call 51; (with_reducible refine (moidoreref03_left.calls 0 m 64 _ _ _ HL.out).mono ?_); rintro e w3 ⟨rfl, ⟨nd3, rfl⟩⟩)
      | (go_at_call 54; (with_reducible refine (moidoreref03_rounded.calls k s _ _ _ _ _ _ HR.out).mono ?_); rintro e w4 ⟨rfl, q4⟩; have Q4 := Lib.hid q4; clear q4))
    go_ret
    exact ⟨rfl, Qt.trans (qt_drewN (qt_alloc (qt_alloc (qt_alloc (Below.trans (Qt.trans (qt_drewN (Below.refl _ _) _) Q1.out) (Below.mono Q2.out (Below.size (Qt.trans (qt_drewN (Below.refl _ _) _) Q1.out)))) _) _) _) _) Q4.out⟩

set_option maxRecDepth 100000 in
set_option maxHeartbeats 4000000 in
theorem add_nc_sameb (a b : Int) (w : World) (s : Bool) (m n E1 E2 hi lo lo2 c r : Int) (k : Nat) (ha : decide (Go.bits .andNot .u64 a 9223372036854775808 > 9218868437227405312) = false) (hb : decide (Go.bits .andNot .u64 b 9223372036854775808 > 9218868437227405312) = false) (ia : (Go.bits .andNot .u64 a 9223372036854775808 == 9218868437227405312) = false) (ib : (Go.bits .andNot .u64 b 9223372036854775808 == 9218868437227405312) = false) (za : (Go.bits .andNot .u64 a 9223372036854775808 == 0) = true) (zb : (Go.bits .andNot .u64 b 9223372036854775808 == 0) = false) (o1 : moidoreref03_open.f a = some (s, 0, m, E1, false)) (o2 : moidoreref03_open.f b = some (s, 0, n, E2, false)) (h1 : E2 ≤ E1) (h2 : E1 - E2 ≤ 64) (e1 : -2000 ≤ E1) (e2 : -2000 ≤ E2) (e3 : E1 ≤ 2000) (e4 : E2 ≤ 2000) (hl : moidoreref03_left.f 0 m (E1 - E2) = some (hi, lo)) (hx : bits_Add64.f lo n 0 = some (lo2, c)) (hr : moidoreref03_rounded.f k s (IntKind.u64.wrap (hi + c)) lo2 E2 false = some r) :
    Calls Try.prog 26 #[.int .u64 a, .int .u64 b] w fun e w' => e = .returned (.int .u64 r) ∧ Qt w w' := by
  have N1 : Hid (moidoreref03_none.f a = some false) := Lib.hid (by unfold moidoreref03_none.f; rw [ha])
  have N2 : Hid (moidoreref03_none.f b = some false) := Lib.hid (by unfold moidoreref03_none.f; rw [hb])
  have O1 := Lib.hid o1
  have O2 := Lib.hid o2
  have HL := Lib.hid hl
  have HR := Lib.hid hr
  have hx := bits_Add64.run _ _ _ _ _ hx
  clear ha hb o1 o2 hl hr
  go_enter Try.func26, Try.ntmps26
  go_wp2_with (first
    | (go_at_call 52; (with_reducible refine (moidoreref03_none.calls a false _ N1.out).mono ?_); rintro e w1 ⟨rfl, ⟨nd, rfl⟩⟩)
    | (go_at_call 52; (with_reducible refine (moidoreref03_none.calls b false _ N2.out).mono ?_); rintro e w1 ⟨rfl, ⟨nd, rfl⟩⟩)
    | (go_at_call 49; (with_reducible refine (moidoreref03_open.calls a _ _ _ _ _ _ O1.out).mono ?_); rintro e w1 ⟨rfl, q1⟩; have Q1 := Lib.hid q1; clear q1)
    | (go_at_call 49; (with_reducible refine (moidoreref03_open.calls b _ _ _ _ _ _ O2.out).mono ?_); rintro e w2 ⟨rfl, q2⟩; have Q2 := Lib.hid q2; clear q2)
    | (go_at_call 51; (with_reducible refine (moidoreref03_left.calls 0 m (E1 - E2) _ _ _ HL.out).mono ?_); rintro e w3 ⟨rfl, ⟨nd3, rfl⟩⟩)
    | (go_at_call 54; (with_reducible refine (moidoreref03_rounded.calls k s _ _ _ _ _ _ HR.out).mono ?_); rintro e w4 ⟨rfl, q4⟩; have Q4 := Lib.hid q4; clear q4))
  go_ret
  exact ⟨rfl, Qt.trans (qt_drewN (qt_alloc (qt_alloc (qt_alloc (Below.trans (Qt.trans (qt_drewN (Below.refl _ _) _) Q1.out) (Below.mono Q2.out (Below.size (Qt.trans (qt_drewN (Below.refl _ _) _) Q1.out)))) _) _) _) _) Q4.out⟩
theorem add_nc_same (a b : Int) (w : World) (s : Bool) (m n E1 E2 hi lo lo2 c r : Int) (k : Nat) (ha : decide (Go.bits .andNot .u64 a 9223372036854775808 > 9218868437227405312) = false) (hb : decide (Go.bits .andNot .u64 b 9223372036854775808 > 9218868437227405312) = false) (ia : (Go.bits .andNot .u64 a 9223372036854775808 == 9218868437227405312) = false) (ib : (Go.bits .andNot .u64 b 9223372036854775808 == 9218868437227405312) = false) (zz : (Go.bits .andNot .u64 a 9223372036854775808 == 0) = false ∨ ((Go.bits .andNot .u64 a 9223372036854775808 == 0) = true ∧ (Go.bits .andNot .u64 b 9223372036854775808 == 0) = false)) (o1 : moidoreref03_open.f a = some (s, 0, m, E1, false)) (o2 : moidoreref03_open.f b = some (s, 0, n, E2, false)) (h1 : E2 ≤ E1) (h2 : E1 - E2 ≤ 64) (e1 : -2000 ≤ E1) (e2 : -2000 ≤ E2) (e3 : E1 ≤ 2000) (e4 : E2 ≤ 2000) (hl : moidoreref03_left.f 0 m (E1 - E2) = some (hi, lo)) (hx : bits_Add64.f lo n 0 = some (lo2, c)) (hr : moidoreref03_rounded.f k s (IntKind.u64.wrap (hi + c)) lo2 E2 false = some r) :
    Calls Try.prog 26 #[.int .u64 a, .int .u64 b] w fun e w' => e = .returned (.int .u64 r) ∧ Qt w w' := by
  rcases zz with za | ⟨za, zb⟩
  · exact add_nc_samea a b w s m n E1 E2 hi lo lo2 c r k ha hb ia ib za o1 o2 h1 h2 e1 e2 e3 e4 hl hx hr
  · exact add_nc_sameb a b w s m n E1 E2 hi lo lo2 c r k ha hb ia ib za zb o1 o2 h1 h2 e1 e2 e3 e4 hl hx hr

set_option maxRecDepth 100000 in
set_option maxHeartbeats 4000000 in
theorem add_nc_ltb (a b : Int) (w : World) (s t : Bool) (m n E1 E2 hi lo lo2 c r : Int) (k : Nat) (ha : decide (Go.bits .andNot .u64 a 9223372036854775808 > 9218868437227405312) = false) (hb : decide (Go.bits .andNot .u64 b 9223372036854775808 > 9218868437227405312) = false) (ia : (Go.bits .andNot .u64 a 9223372036854775808 == 9218868437227405312) = false) (ib : (Go.bits .andNot .u64 b 9223372036854775808 == 9218868437227405312) = false) (za : (Go.bits .andNot .u64 a 9223372036854775808 == 0) = true) (zb : (Go.bits .andNot .u64 b 9223372036854775808 == 0) = false) (o1 : moidoreref03_open.f a = some (s, 0, m, E1, false)) (o2 : moidoreref03_open.f b = some (t, 0, n, E2, false)) (h1 : E2 ≤ E1) (h2 : E1 - E2 ≤ 64) (e1 : -2000 ≤ E1) (e2 : -2000 ≤ E2) (e3 : E1 ≤ 2000) (e4 : E2 ≤ 2000) (hl : moidoreref03_left.f 0 m (E1 - E2) = some (hi, lo)) (ne : (s == t) = false) (hi0 : hi = 0) (hlt : lo < n) (hr : moidoreref03_rounded.f k t 0 (IntKind.u64.wrap (n - lo)) E2 false = some r) :
    Calls Try.prog 26 #[.int .u64 a, .int .u64 b] w fun e w' => e = .returned (.int .u64 r) ∧ Qt w w' := by
  have N1 : Hid (moidoreref03_none.f a = some false) := Lib.hid (by unfold moidoreref03_none.f; rw [ha])
  have N2 : Hid (moidoreref03_none.f b = some false) := Lib.hid (by unfold moidoreref03_none.f; rw [hb])
  have O1 := Lib.hid o1
  have O2 := Lib.hid o2
  have HL := Lib.hid hl
  have HR := Lib.hid hr
  subst hi0
  clear ha hb o1 o2 hl hr
  go_enter Try.func26, Try.ntmps26
  go_wp2_with (first
    | (go_at_call 52; (with_reducible refine (moidoreref03_none.calls a false _ N1.out).mono ?_); rintro e w1 ⟨rfl, ⟨nd, rfl⟩⟩)
    | (go_at_call 52; (with_reducible refine (moidoreref03_none.calls b false _ N2.out).mono ?_); rintro e w1 ⟨rfl, ⟨nd, rfl⟩⟩)
    | (go_at_call 49; (with_reducible refine (moidoreref03_open.calls a _ _ _ _ _ _ O1.out).mono ?_); rintro e w1 ⟨rfl, q1⟩; have Q1 := Lib.hid q1; clear q1)
    | (go_at_call 49; (with_reducible refine (moidoreref03_open.calls b _ _ _ _ _ _ O2.out).mono ?_); rintro e w2 ⟨rfl, q2⟩; have Q2 := Lib.hid q2; clear q2)
    | (go_at_call 51; (with_reducible refine (moidoreref03_left.calls 0 m (E1 - E2) _ _ _ HL.out).mono ?_); rintro e w3 ⟨rfl, ⟨nd3, rfl⟩⟩)
    | (go_at_call 54; (with_reducible refine (moidoreref03_rounded.calls k t _ _ _ _ _ _ HR.out).mono ?_); rintro e w4 ⟨rfl, q4⟩; have Q4 := Lib.hid q4; clear q4))
  go_ret
  exact ⟨rfl, Qt.trans (qt_drewN (qt_alloc (qt_alloc (qt_alloc (Below.trans (Qt.trans (qt_drewN (Below.refl _ _) _) Q1.out) (Below.mono Q2.out (Below.size (Qt.trans (qt_drewN (Below.refl _ _) _) Q1.out)))) _) _) _) _) Q4.out⟩
theorem add_nc_lt (a b : Int) (w : World) (s t : Bool) (m n E1 E2 hi lo lo2 c r : Int) (k : Nat) (ha : decide (Go.bits .andNot .u64 a 9223372036854775808 > 9218868437227405312) = false) (hb : decide (Go.bits .andNot .u64 b 9223372036854775808 > 9218868437227405312) = false) (ia : (Go.bits .andNot .u64 a 9223372036854775808 == 9218868437227405312) = false) (ib : (Go.bits .andNot .u64 b 9223372036854775808 == 9218868437227405312) = false) (zz : (Go.bits .andNot .u64 a 9223372036854775808 == 0) = false ∨ ((Go.bits .andNot .u64 a 9223372036854775808 == 0) = true ∧ (Go.bits .andNot .u64 b 9223372036854775808 == 0) = false)) (o1 : moidoreref03_open.f a = some (s, 0, m, E1, false)) (o2 : moidoreref03_open.f b = some (t, 0, n, E2, false)) (h1 : E2 ≤ E1) (h2 : E1 - E2 ≤ 64) (e1 : -2000 ≤ E1) (e2 : -2000 ≤ E2) (e3 : E1 ≤ 2000) (e4 : E2 ≤ 2000) (hl : moidoreref03_left.f 0 m (E1 - E2) = some (hi, lo)) (ne : (s == t) = false) (hi0 : hi = 0) (hlt : lo < n) (hr : moidoreref03_rounded.f k t 0 (IntKind.u64.wrap (n - lo)) E2 false = some r) :
    Calls Try.prog 26 #[.int .u64 a, .int .u64 b] w fun e w' => e = .returned (.int .u64 r) ∧ Qt w w' := by
  rcases zz with za | ⟨za, zb⟩
  · exact add_nc_lta a b w s t m n E1 E2 hi lo lo2 c r k ha hb ia ib za o1 o2 h1 h2 e1 e2 e3 e4 hl ne hi0 hlt hr
  · exact add_nc_ltb a b w s t m n E1 E2 hi lo lo2 c r k ha hb ia ib za zb o1 o2 h1 h2 e1 e2 e3 e4 hl ne hi0 hlt hr

set_option maxRecDepth 100000 in
set_option maxHeartbeats 4000000 in
theorem add_nc_zerob (a b : Int) (w : World) (s t : Bool) (m n E1 E2 hi lo lo2 c r : Int) (k : Nat) (ha : decide (Go.bits .andNot .u64 a 9223372036854775808 > 9218868437227405312) = false) (hb : decide (Go.bits .andNot .u64 b 9223372036854775808 > 9218868437227405312) = false) (ia : (Go.bits .andNot .u64 a 9223372036854775808 == 9218868437227405312) = false) (ib : (Go.bits .andNot .u64 b 9223372036854775808 == 9218868437227405312) = false) (za : (Go.bits .andNot .u64 a 9223372036854775808 == 0) = true) (zb : (Go.bits .andNot .u64 b 9223372036854775808 == 0) = false) (o1 : moidoreref03_open.f a = some (s, 0, m, E1, false)) (o2 : moidoreref03_open.f b = some (t, 0, n, E2, false)) (h1 : E2 ≤ E1) (h2 : E1 - E2 ≤ 64) (e1 : -2000 ≤ E1) (e2 : -2000 ≤ E2) (e3 : E1 ≤ 2000) (e4 : E2 ≤ 2000) (hl : moidoreref03_left.f 0 m (E1 - E2) = some (hi, lo)) (ne : (s == t) = false) (hge : (hi == 0) = false ∨ ((hi == 0) = true ∧ n ≤ lo)) (hx : bits_Sub64.f lo n 0 = some (lo2, c)) (hz : (IntKind.u64.wrap (hi - c) == 0) = true) (lz : (lo2 == 0) = true) :
    Calls Try.prog 26 #[.int .u64 a, .int .u64 b] w fun e w' => e = .returned (.int .u64 0) ∧ Qt w w' := by
  have N1 : Hid (moidoreref03_none.f a = some false) := Lib.hid (by unfold moidoreref03_none.f; rw [ha])
  have N2 : Hid (moidoreref03_none.f b = some false) := Lib.hid (by unfold moidoreref03_none.f; rw [hb])
  have O1 := Lib.hid o1
  have O2 := Lib.hid o2
  have HL := Lib.hid hl
  have hx := bits_Sub64.run _ _ _ _ _ hx
  clear ha hb o1 o2 hl
  rcases hge with hge | ⟨hge, hge2⟩
  all_goals
    go_enter Try.func26, Try.ntmps26
    go_wp2_with (first
      | (go_at_call 52; (with_reducible refine (moidoreref03_none.calls a false _ N1.out).mono ?_); rintro e w1 ⟨rfl, ⟨nd, rfl⟩⟩)
      | (go_at_call 52; (with_reducible refine (moidoreref03_none.calls b false _ N2.out).mono ?_); rintro e w1 ⟨rfl, ⟨nd, rfl⟩⟩)
      | (go_at_call 49; (with_reducible refine (moidoreref03_open.calls a _ _ _ _ _ _ O1.out).mono ?_); rintro e w1 ⟨rfl, q1⟩; have Q1 := Lib.hid q1; clear q1)
      | (go_at_call 49; (with_reducible refine (moidoreref03_open.calls b _ _ _ _ _ _ O2.out).mono ?_); rintro e w2 ⟨rfl, q2⟩; have Q2 := Lib.hid q2; clear q2)
      | (go_at_call 51; (with_reducible refine (moidoreref03_left.calls 0 m (E1 - E2) _ _ _ HL.out).mono ?_); rintro e w3 ⟨rfl, ⟨nd3, rfl⟩⟩))
    go_ret
    exact ⟨rfl, (qt_drewN (qt_alloc (qt_alloc (qt_alloc (Below.trans (Qt.trans (qt_drewN (Below.refl _ _) _) Q1.out) (Below.mono Q2.out (Below.size (Qt.trans (qt_drewN (Below.refl _ _) _) Q1.out)))) _) _) _) _)⟩
theorem add_nc_zero (a b : Int) (w : World) (s t : Bool) (m n E1 E2 hi lo lo2 c r : Int) (k : Nat) (ha : decide (Go.bits .andNot .u64 a 9223372036854775808 > 9218868437227405312) = false) (hb : decide (Go.bits .andNot .u64 b 9223372036854775808 > 9218868437227405312) = false) (ia : (Go.bits .andNot .u64 a 9223372036854775808 == 9218868437227405312) = false) (ib : (Go.bits .andNot .u64 b 9223372036854775808 == 9218868437227405312) = false) (zz : (Go.bits .andNot .u64 a 9223372036854775808 == 0) = false ∨ ((Go.bits .andNot .u64 a 9223372036854775808 == 0) = true ∧ (Go.bits .andNot .u64 b 9223372036854775808 == 0) = false)) (o1 : moidoreref03_open.f a = some (s, 0, m, E1, false)) (o2 : moidoreref03_open.f b = some (t, 0, n, E2, false)) (h1 : E2 ≤ E1) (h2 : E1 - E2 ≤ 64) (e1 : -2000 ≤ E1) (e2 : -2000 ≤ E2) (e3 : E1 ≤ 2000) (e4 : E2 ≤ 2000) (hl : moidoreref03_left.f 0 m (E1 - E2) = some (hi, lo)) (ne : (s == t) = false) (hge : (hi == 0) = false ∨ ((hi == 0) = true ∧ n ≤ lo)) (hx : bits_Sub64.f lo n 0 = some (lo2, c)) (hz : (IntKind.u64.wrap (hi - c) == 0) = true) (lz : (lo2 == 0) = true) :
    Calls Try.prog 26 #[.int .u64 a, .int .u64 b] w fun e w' => e = .returned (.int .u64 0) ∧ Qt w w' := by
  rcases zz with za | ⟨za, zb⟩
  · exact add_nc_zeroa a b w s t m n E1 E2 hi lo lo2 c r k ha hb ia ib za o1 o2 h1 h2 e1 e2 e3 e4 hl ne hge hx hz lz
  · exact add_nc_zerob a b w s t m n E1 E2 hi lo lo2 c r k ha hb ia ib za zb o1 o2 h1 h2 e1 e2 e3 e4 hl ne hge hx hz lz

set_option maxRecDepth 100000 in
set_option maxHeartbeats 4000000 in
theorem add_nc_hib (a b : Int) (w : World) (s t : Bool) (m n E1 E2 hi lo lo2 c r : Int) (k : Nat) (ha : decide (Go.bits .andNot .u64 a 9223372036854775808 > 9218868437227405312) = false) (hb : decide (Go.bits .andNot .u64 b 9223372036854775808 > 9218868437227405312) = false) (ia : (Go.bits .andNot .u64 a 9223372036854775808 == 9218868437227405312) = false) (ib : (Go.bits .andNot .u64 b 9223372036854775808 == 9218868437227405312) = false) (za : (Go.bits .andNot .u64 a 9223372036854775808 == 0) = true) (zb : (Go.bits .andNot .u64 b 9223372036854775808 == 0) = false) (o1 : moidoreref03_open.f a = some (s, 0, m, E1, false)) (o2 : moidoreref03_open.f b = some (t, 0, n, E2, false)) (h1 : E2 ≤ E1) (h2 : E1 - E2 ≤ 64) (e1 : -2000 ≤ E1) (e2 : -2000 ≤ E2) (e3 : E1 ≤ 2000) (e4 : E2 ≤ 2000) (hl : moidoreref03_left.f 0 m (E1 - E2) = some (hi, lo)) (ne : (s == t) = false) (hge : (hi == 0) = false ∨ ((hi == 0) = true ∧ n ≤ lo)) (hx : bits_Sub64.f lo n 0 = some (lo2, c)) (hz : (IntKind.u64.wrap (hi - c) == 0) = false) (hr : moidoreref03_rounded.f k s (IntKind.u64.wrap (hi - c)) lo2 E2 false = some r) :
    Calls Try.prog 26 #[.int .u64 a, .int .u64 b] w fun e w' => e = .returned (.int .u64 r) ∧ Qt w w' := by
  have N1 : Hid (moidoreref03_none.f a = some false) := Lib.hid (by unfold moidoreref03_none.f; rw [ha])
  have N2 : Hid (moidoreref03_none.f b = some false) := Lib.hid (by unfold moidoreref03_none.f; rw [hb])
  have O1 := Lib.hid o1
  have O2 := Lib.hid o2
  have HL := Lib.hid hl
  have HR := Lib.hid hr
  have hx := bits_Sub64.run _ _ _ _ _ hx
  clear ha hb o1 o2 hl hr
  rcases hge with hge | ⟨hge, hge2⟩
  all_goals
    go_enter Try.func26, Try.ntmps26
    go_wp2_with (first
      | (go_at_call 52; (with_reducible refine (moidoreref03_none.calls a false _ N1.out).mono ?_); rintro e w1 ⟨rfl, ⟨nd, rfl⟩⟩)
      | (go_at_call 52; (with_reducible refine (moidoreref03_none.calls b false _ N2.out).mono ?_); rintro e w1 ⟨rfl, ⟨nd, rfl⟩⟩)
      | (go_at_call 49; (with_reducible refine (moidoreref03_open.calls a _ _ _ _ _ _ O1.out).mono ?_); rintro e w1 ⟨rfl, q1⟩; have Q1 := Lib.hid q1; clear q1)
      | (go_at_call 49; (with_reducible refine (moidoreref03_open.calls b _ _ _ _ _ _ O2.out).mono ?_); rintro e w2 ⟨rfl, q2⟩; have Q2 := Lib.hid q2; clear q2)
      | (go_at_call 51; (with_reducible refine (moidoreref03_left.calls 0 m (E1 - E2) _ _ _ HL.out).mono ?_); rintro e w3 ⟨rfl, ⟨nd3, rfl⟩⟩)
      | (go_at_call 54; (with_reducible refine (moidoreref03_rounded.calls k s _ _ _ _ _ _ HR.out).mono ?_); rintro e w4 ⟨rfl, q4⟩; have Q4 := Lib.hid q4; clear q4))
    go_ret
    exact ⟨rfl, Qt.trans (qt_drewN (qt_alloc (qt_alloc (qt_alloc (Below.trans (Qt.trans (qt_drewN (Below.refl _ _) _) Q1.out) (Below.mono Q2.out (Below.size (Qt.trans (qt_drewN (Below.refl _ _) _) Q1.out)))) _) _) _) _) Q4.out⟩
theorem add_nc_hi (a b : Int) (w : World) (s t : Bool) (m n E1 E2 hi lo lo2 c r : Int) (k : Nat) (ha : decide (Go.bits .andNot .u64 a 9223372036854775808 > 9218868437227405312) = false) (hb : decide (Go.bits .andNot .u64 b 9223372036854775808 > 9218868437227405312) = false) (ia : (Go.bits .andNot .u64 a 9223372036854775808 == 9218868437227405312) = false) (ib : (Go.bits .andNot .u64 b 9223372036854775808 == 9218868437227405312) = false) (zz : (Go.bits .andNot .u64 a 9223372036854775808 == 0) = false ∨ ((Go.bits .andNot .u64 a 9223372036854775808 == 0) = true ∧ (Go.bits .andNot .u64 b 9223372036854775808 == 0) = false)) (o1 : moidoreref03_open.f a = some (s, 0, m, E1, false)) (o2 : moidoreref03_open.f b = some (t, 0, n, E2, false)) (h1 : E2 ≤ E1) (h2 : E1 - E2 ≤ 64) (e1 : -2000 ≤ E1) (e2 : -2000 ≤ E2) (e3 : E1 ≤ 2000) (e4 : E2 ≤ 2000) (hl : moidoreref03_left.f 0 m (E1 - E2) = some (hi, lo)) (ne : (s == t) = false) (hge : (hi == 0) = false ∨ ((hi == 0) = true ∧ n ≤ lo)) (hx : bits_Sub64.f lo n 0 = some (lo2, c)) (hz : (IntKind.u64.wrap (hi - c) == 0) = false) (hr : moidoreref03_rounded.f k s (IntKind.u64.wrap (hi - c)) lo2 E2 false = some r) :
    Calls Try.prog 26 #[.int .u64 a, .int .u64 b] w fun e w' => e = .returned (.int .u64 r) ∧ Qt w w' := by
  rcases zz with za | ⟨za, zb⟩
  · exact add_nc_hia a b w s t m n E1 E2 hi lo lo2 c r k ha hb ia ib za o1 o2 h1 h2 e1 e2 e3 e4 hl ne hge hx hz hr
  · exact add_nc_hib a b w s t m n E1 E2 hi lo lo2 c r k ha hb ia ib za zb o1 o2 h1 h2 e1 e2 e3 e4 hl ne hge hx hz hr

set_option maxRecDepth 100000 in
set_option maxHeartbeats 4000000 in
theorem add_nc_lob (a b : Int) (w : World) (s t : Bool) (m n E1 E2 hi lo lo2 c r : Int) (k : Nat) (ha : decide (Go.bits .andNot .u64 a 9223372036854775808 > 9218868437227405312) = false) (hb : decide (Go.bits .andNot .u64 b 9223372036854775808 > 9218868437227405312) = false) (ia : (Go.bits .andNot .u64 a 9223372036854775808 == 9218868437227405312) = false) (ib : (Go.bits .andNot .u64 b 9223372036854775808 == 9218868437227405312) = false) (za : (Go.bits .andNot .u64 a 9223372036854775808 == 0) = true) (zb : (Go.bits .andNot .u64 b 9223372036854775808 == 0) = false) (o1 : moidoreref03_open.f a = some (s, 0, m, E1, false)) (o2 : moidoreref03_open.f b = some (t, 0, n, E2, false)) (h1 : E2 ≤ E1) (h2 : E1 - E2 ≤ 64) (e1 : -2000 ≤ E1) (e2 : -2000 ≤ E2) (e3 : E1 ≤ 2000) (e4 : E2 ≤ 2000) (hl : moidoreref03_left.f 0 m (E1 - E2) = some (hi, lo)) (ne : (s == t) = false) (hge : (hi == 0) = false ∨ ((hi == 0) = true ∧ n ≤ lo)) (hx : bits_Sub64.f lo n 0 = some (lo2, c)) (hz : (IntKind.u64.wrap (hi - c) == 0) = true) (lz : (lo2 == 0) = false) (hr : moidoreref03_rounded.f k s (IntKind.u64.wrap (hi - c)) lo2 E2 false = some r) :
    Calls Try.prog 26 #[.int .u64 a, .int .u64 b] w fun e w' => e = .returned (.int .u64 r) ∧ Qt w w' := by
  have N1 : Hid (moidoreref03_none.f a = some false) := Lib.hid (by unfold moidoreref03_none.f; rw [ha])
  have N2 : Hid (moidoreref03_none.f b = some false) := Lib.hid (by unfold moidoreref03_none.f; rw [hb])
  have O1 := Lib.hid o1
  have O2 := Lib.hid o2
  have HL := Lib.hid hl
  have HR := Lib.hid hr
  have hx := bits_Sub64.run _ _ _ _ _ hx
  clear ha hb o1 o2 hl hr
  rcases hge with hge | ⟨hge, hge2⟩
  all_goals
    go_enter Try.func26, Try.ntmps26
    go_wp2_with (first
      | (go_at_call 52; (with_reducible refine (moidoreref03_none.calls a false _ N1.out).mono ?_); rintro e w1 ⟨rfl, ⟨nd, rfl⟩⟩)
      | (go_at_call 52; (with_reducible refine (moidoreref03_none.calls b false _ N2.out).mono ?_); rintro e w1 ⟨rfl, ⟨nd, rfl⟩⟩)
      | (go_at_call 49; (with_reducible refine (moidoreref03_open.calls a _ _ _ _ _ _ O1.out).mono ?_); rintro e w1 ⟨rfl, q1⟩; have Q1 := Lib.hid q1; clear q1)
      | (go_at_call 49; (with_reducible refine (moidoreref03_open.calls b _ _ _ _ _ _ O2.out).mono ?_); rintro e w2 ⟨rfl, q2⟩; have Q2 := Lib.hid q2; clear q2)
      | (go_at_call 51; (with_reducible refine (moidoreref03_left.calls 0 m (E1 - E2) _ _ _ HL.out).mono ?_); rintro e w3 ⟨rfl, ⟨nd3, rfl⟩⟩)
      | (go_at_call 54; (with_reducible refine (moidoreref03_rounded.calls k s _ _ _ _ _ _ HR.out).mono ?_); rintro e w4 ⟨rfl, q4⟩; have Q4 := Lib.hid q4; clear q4))
    go_ret
    exact ⟨rfl, Qt.trans (qt_drewN (qt_alloc (qt_alloc (qt_alloc (Below.trans (Qt.trans (qt_drewN (Below.refl _ _) _) Q1.out) (Below.mono Q2.out (Below.size (Qt.trans (qt_drewN (Below.refl _ _) _) Q1.out)))) _) _) _) _) Q4.out⟩
theorem add_nc_lo (a b : Int) (w : World) (s t : Bool) (m n E1 E2 hi lo lo2 c r : Int) (k : Nat) (ha : decide (Go.bits .andNot .u64 a 9223372036854775808 > 9218868437227405312) = false) (hb : decide (Go.bits .andNot .u64 b 9223372036854775808 > 9218868437227405312) = false) (ia : (Go.bits .andNot .u64 a 9223372036854775808 == 9218868437227405312) = false) (ib : (Go.bits .andNot .u64 b 9223372036854775808 == 9218868437227405312) = false) (zz : (Go.bits .andNot .u64 a 9223372036854775808 == 0) = false ∨ ((Go.bits .andNot .u64 a 9223372036854775808 == 0) = true ∧ (Go.bits .andNot .u64 b 9223372036854775808 == 0) = false)) (o1 : moidoreref03_open.f a = some (s, 0, m, E1, false)) (o2 : moidoreref03_open.f b = some (t, 0, n, E2, false)) (h1 : E2 ≤ E1) (h2 : E1 - E2 ≤ 64) (e1 : -2000 ≤ E1) (e2 : -2000 ≤ E2) (e3 : E1 ≤ 2000) (e4 : E2 ≤ 2000) (hl : moidoreref03_left.f 0 m (E1 - E2) = some (hi, lo)) (ne : (s == t) = false) (hge : (hi == 0) = false ∨ ((hi == 0) = true ∧ n ≤ lo)) (hx : bits_Sub64.f lo n 0 = some (lo2, c)) (hz : (IntKind.u64.wrap (hi - c) == 0) = true) (lz : (lo2 == 0) = false) (hr : moidoreref03_rounded.f k s (IntKind.u64.wrap (hi - c)) lo2 E2 false = some r) :
    Calls Try.prog 26 #[.int .u64 a, .int .u64 b] w fun e w' => e = .returned (.int .u64 r) ∧ Qt w w' := by
  rcases zz with za | ⟨za, zb⟩
  · exact add_nc_loa a b w s t m n E1 E2 hi lo lo2 c r k ha hb ia ib za o1 o2 h1 h2 e1 e2 e3 e4 hl ne hge hx hz lz hr
  · exact add_nc_lob a b w s t m n E1 E2 hi lo lo2 c r k ha hb ia ib za zb o1 o2 h1 h2 e1 e2 e3 e4 hl ne hge hx hz lz hr

set_option maxRecDepth 100000 in
set_option maxHeartbeats 4000000 in
theorem add_nf_sameb (a b : Int) (w : World) (s : Bool) (m n E1 E2 hi lo lo2 c r : Int) (k : Nat) (z my : Int) (more : Bool) (ha : decide (Go.bits .andNot .u64 a 9223372036854775808 > 9218868437227405312) = false) (hb : decide (Go.bits .andNot .u64 b 9223372036854775808 > 9218868437227405312) = false) (ia : (Go.bits .andNot .u64 a 9223372036854775808 == 9218868437227405312) = false) (ib : (Go.bits .andNot .u64 b 9223372036854775808 == 9218868437227405312) = false) (za : (Go.bits .andNot .u64 a 9223372036854775808 == 0) = true) (zb : (Go.bits .andNot .u64 b 9223372036854775808 == 0) = false) (o1 : moidoreref03_open.f a = some (s, 0, m, E1, false)) (o2 : moidoreref03_open.f b = some (s, 0, n, E2, false)) (h1 : E2 ≤ E1) (h2 : 64 < E1 - E2) (e1 : -2000 ≤ E1) (e2 : -2000 ≤ E2) (e3 : E1 ≤ 2000) (e4 : E2 ≤ 2000) (hri : moidoreref03_right.f 0 n (E1 - E2 - 64) = some (z, my, more)) (hl : moidoreref03_left.f 0 m 64 = some (hi, lo)) (hx : bits_Add64.f lo my 0 = some (lo2, c)) (hr : moidoreref03_rounded.f k s (IntKind.u64.wrap (hi + c)) lo2 (E1 - 64) more = some r) :
    Calls Try.prog 26 #[.int .u64 a, .int .u64 b] w fun e w' => e = .returned (.int .u64 r) ∧ Qt w w' := by
  have N1 : Hid (moidoreref03_none.f a = some false) := Lib.hid (by unfold moidoreref03_none.f; rw [ha])
  have N2 : Hid (moidoreref03_none.f b = some false) := Lib.hid (by unfold moidoreref03_none.f; rw [hb])
  have O1 := Lib.hid o1
  have O2 := Lib.hid o2
  have HL := Lib.hid hl
  have HI := Lib.hid hri
  have HR := Lib.hid hr
  have hx := bits_Add64.run _ _ _ _ _ hx
  clear ha hb o1 o2 hl hri hr
  go_enter Try.func26, Try.ntmps26
  go_wp2_with (first
    | (go_at_call 52; (with_reducible refine (moidoreref03_none.calls a false _ N1.out).mono ?_); rintro e w1 ⟨rfl, ⟨nd, rfl⟩⟩)
    | (go_at_call 52; (with_reducible refine (moidoreref03_none.calls b false _ N2.out).mono ?_); rintro e w1 ⟨rfl, ⟨nd, rfl⟩⟩)
    | (go_at_call 49; (with_reducible refine (moidoreref03_open.calls a _ _ _ _ _ _ O1.out).mono ?_); rintro e w1 ⟨rfl, q1⟩; have Q1 := Lib.hid q1; clear q1)
    | (go_at_call 49; (with_reducible refine (moidoreref03_open.calls b _ _ _ _ _ _ O2.out).mono ?_); rintro e w2 ⟨rfl, q2⟩; have Q2 := Lib.hid q2; clear q2)
    | (go_at_call 50; (with_reducible refine (moidoreref03_right.calls 0 n (E1 - E2 - 64) _ _ _ _ HI.out).mono ?_); rintro e w3 ⟨rfl, ⟨nd3, rfl⟩⟩)
    | (go_at_call 51; (with_reducible refine (moidoreref03_left.calls 0 m 64 _ _ _ HL.out).mono ?_); rintro e w3 ⟨rfl, ⟨nd3, rfl⟩⟩)
    | (go_at_call 54; (with_reducible refine (moidoreref03_rounded.calls k s _ _ _ _ _ _ HR.out).mono ?_); rintro e w4 ⟨rfl, q4⟩; have Q4 := Lib.hid q4; clear q4))
  go_ret
  exact ⟨rfl, Qt.trans (qt_drewN (qt_alloc (qt_alloc (qt_alloc (Below.trans (Qt.trans (qt_drewN (Below.refl _ _) _) Q1.out) (Below.mono Q2.out (Below.size (Qt.trans (qt_drewN (Below.refl _ _) _) Q1.out)))) _) _) _) _) Q4.out⟩
theorem add_nf_same (a b : Int) (w : World) (s : Bool) (m n E1 E2 hi lo lo2 c r : Int) (k : Nat) (z my : Int) (more : Bool) (ha : decide (Go.bits .andNot .u64 a 9223372036854775808 > 9218868437227405312) = false) (hb : decide (Go.bits .andNot .u64 b 9223372036854775808 > 9218868437227405312) = false) (ia : (Go.bits .andNot .u64 a 9223372036854775808 == 9218868437227405312) = false) (ib : (Go.bits .andNot .u64 b 9223372036854775808 == 9218868437227405312) = false) (zz : (Go.bits .andNot .u64 a 9223372036854775808 == 0) = false ∨ ((Go.bits .andNot .u64 a 9223372036854775808 == 0) = true ∧ (Go.bits .andNot .u64 b 9223372036854775808 == 0) = false)) (o1 : moidoreref03_open.f a = some (s, 0, m, E1, false)) (o2 : moidoreref03_open.f b = some (s, 0, n, E2, false)) (h1 : E2 ≤ E1) (h2 : 64 < E1 - E2) (e1 : -2000 ≤ E1) (e2 : -2000 ≤ E2) (e3 : E1 ≤ 2000) (e4 : E2 ≤ 2000) (hri : moidoreref03_right.f 0 n (E1 - E2 - 64) = some (z, my, more)) (hl : moidoreref03_left.f 0 m 64 = some (hi, lo)) (hx : bits_Add64.f lo my 0 = some (lo2, c)) (hr : moidoreref03_rounded.f k s (IntKind.u64.wrap (hi + c)) lo2 (E1 - 64) more = some r) :
    Calls Try.prog 26 #[.int .u64 a, .int .u64 b] w fun e w' => e = .returned (.int .u64 r) ∧ Qt w w' := by
  rcases zz with za | ⟨za, zb⟩
  · exact add_nf_samea a b w s m n E1 E2 hi lo lo2 c r k z my more ha hb ia ib za o1 o2 h1 h2 e1 e2 e3 e4 hri hl hx hr
  · exact add_nf_sameb a b w s m n E1 E2 hi lo lo2 c r k z my more ha hb ia ib za zb o1 o2 h1 h2 e1 e2 e3 e4 hri hl hx hr

set_option maxRecDepth 100000 in
set_option maxHeartbeats 4000000 in
theorem add_nf_hib (a b : Int) (w : World) (s t : Bool) (m n E1 E2 hi lo lo2 c r : Int) (k : Nat) (z my : Int) (ha : decide (Go.bits .andNot .u64 a 9223372036854775808 > 9218868437227405312) = false) (hb : decide (Go.bits .andNot .u64 b 9223372036854775808 > 9218868437227405312) = false) (ia : (Go.bits .andNot .u64 a 9223372036854775808 == 9218868437227405312) = false) (ib : (Go.bits .andNot .u64 b 9223372036854775808 == 9218868437227405312) = false) (za : (Go.bits .andNot .u64 a 9223372036854775808 == 0) = true) (zb : (Go.bits .andNot .u64 b 9223372036854775808 == 0) = false) (o1 : moidoreref03_open.f a = some (s, 0, m, E1, false)) (o2 : moidoreref03_open.f b = some (t, 0, n, E2, false)) (h1 : E2 ≤ E1) (h2 : 64 < E1 - E2) (e1 : -2000 ≤ E1) (e2 : -2000 ≤ E2) (e3 : E1 ≤ 2000) (e4 : E2 ≤ 2000) (hri : moidoreref03_right.f 0 n (E1 - E2 - 64) = some (z, my, false)) (hl : moidoreref03_left.f 0 m 64 = some (hi, lo)) (ne : (s == t) = false) (hge : (hi == 0) = false ∨ ((hi == 0) = true ∧ my ≤ lo)) (hx : bits_Sub64.f lo my 0 = some (lo2, c)) (hz : (IntKind.u64.wrap (hi - c) == 0) = false) (hr : moidoreref03_rounded.f k s (IntKind.u64.wrap (hi - c)) lo2 (E1 - 64) false = some r) :
    Calls Try.prog 26 #[.int .u64 a, .int .u64 b] w fun e w' => e = .returned (.int .u64 r) ∧ Qt w w' := by
  have N1 : Hid (moidoreref03_none.f a = some false) := Lib.hid (by unfold moidoreref03_none.f; rw [ha])
  have N2 : Hid (moidoreref03_none.f b = some false) := Lib.hid (by unfold moidoreref03_none.f; rw [hb])
  have O1 := Lib.hid o1
  have O2 := Lib.hid o2
  have HL := Lib.hid hl
  have HI := Lib.hid hri
  have HR := Lib.hid hr
  have hx := bits_Sub64.run _ _ _ _ _ hx
  clear ha hb o1 o2 hl hri hr
  rcases hge with hge | ⟨hge, hge2⟩
  all_goals
    go_enter Try.func26, Try.ntmps26
    go_wp2_with (first
      | (go_at_call 52; (with_reducible refine (moidoreref03_none.calls a false _ N1.out).mono ?_); rintro e w1 ⟨rfl, ⟨nd, rfl⟩⟩)
      | (go_at_call 52; (with_reducible refine (moidoreref03_none.calls b false _ N2.out).mono ?_); rintro e w1 ⟨rfl, ⟨nd, rfl⟩⟩)
      | (go_at_call 49; (with_reducible refine (moidoreref03_open.calls a _ _ _ _ _ _ O1.out).mono ?_); rintro e w1 ⟨rfl, q1⟩; have Q1 := Lib.hid q1; clear q1)
      | (go_at_call 49; (with_reducible refine (moidoreref03_open.calls b _ _ _ _ _ _ O2.out).mono ?_); rintro e w2 ⟨rfl, q2⟩; have Q2 := Lib.hid q2; clear q2)
      | (go_at_call 50; (with_reducible refine (moidoreref03_right.calls 0 n (E1 - E2 - 64) _ _ _ _ HI.out).mono ?_); rintro e w3 ⟨rfl, ⟨nd3, rfl⟩⟩)
      | (go_at_call 51; (with_reducible refine (moidoreref03_left.calls 0 m 64 _ _ _ HL.out).mono ?_); rintro e w3 ⟨rfl, ⟨nd3, rfl⟩⟩)
      | (go_at_call 54; (with_reducible refine (moidoreref03_rounded.calls k s _ _ _ _ _ _ HR.out).mono ?_); rintro e w4 ⟨rfl, q4⟩; have Q4 := Lib.hid q4; clear q4))
    go_ret
    exact ⟨rfl, Qt.trans (qt_drewN (qt_alloc (qt_alloc (qt_alloc (Below.trans (Qt.trans (qt_drewN (Below.refl _ _) _) Q1.out) (Below.mono Q2.out (Below.size (Qt.trans (qt_drewN (Below.refl _ _) _) Q1.out)))) _) _) _) _) Q4.out⟩
theorem add_nf_hi (a b : Int) (w : World) (s t : Bool) (m n E1 E2 hi lo lo2 c r : Int) (k : Nat) (z my : Int) (ha : decide (Go.bits .andNot .u64 a 9223372036854775808 > 9218868437227405312) = false) (hb : decide (Go.bits .andNot .u64 b 9223372036854775808 > 9218868437227405312) = false) (ia : (Go.bits .andNot .u64 a 9223372036854775808 == 9218868437227405312) = false) (ib : (Go.bits .andNot .u64 b 9223372036854775808 == 9218868437227405312) = false) (zz : (Go.bits .andNot .u64 a 9223372036854775808 == 0) = false ∨ ((Go.bits .andNot .u64 a 9223372036854775808 == 0) = true ∧ (Go.bits .andNot .u64 b 9223372036854775808 == 0) = false)) (o1 : moidoreref03_open.f a = some (s, 0, m, E1, false)) (o2 : moidoreref03_open.f b = some (t, 0, n, E2, false)) (h1 : E2 ≤ E1) (h2 : 64 < E1 - E2) (e1 : -2000 ≤ E1) (e2 : -2000 ≤ E2) (e3 : E1 ≤ 2000) (e4 : E2 ≤ 2000) (hri : moidoreref03_right.f 0 n (E1 - E2 - 64) = some (z, my, false)) (hl : moidoreref03_left.f 0 m 64 = some (hi, lo)) (ne : (s == t) = false) (hge : (hi == 0) = false ∨ ((hi == 0) = true ∧ my ≤ lo)) (hx : bits_Sub64.f lo my 0 = some (lo2, c)) (hz : (IntKind.u64.wrap (hi - c) == 0) = false) (hr : moidoreref03_rounded.f k s (IntKind.u64.wrap (hi - c)) lo2 (E1 - 64) false = some r) :
    Calls Try.prog 26 #[.int .u64 a, .int .u64 b] w fun e w' => e = .returned (.int .u64 r) ∧ Qt w w' := by
  rcases zz with za | ⟨za, zb⟩
  · exact add_nf_hia a b w s t m n E1 E2 hi lo lo2 c r k z my ha hb ia ib za o1 o2 h1 h2 e1 e2 e3 e4 hri hl ne hge hx hz hr
  · exact add_nf_hib a b w s t m n E1 E2 hi lo lo2 c r k z my ha hb ia ib za zb o1 o2 h1 h2 e1 e2 e3 e4 hri hl ne hge hx hz hr

set_option maxRecDepth 100000 in
set_option maxHeartbeats 4000000 in
theorem add_nf_moreb (a b : Int) (w : World) (s t : Bool) (m n E1 E2 hi lo lo2 c r : Int) (k : Nat) (z my : Int) (lo3 c3 : Int) (ha : decide (Go.bits .andNot .u64 a 9223372036854775808 > 9218868437227405312) = false) (hb : decide (Go.bits .andNot .u64 b 9223372036854775808 > 9218868437227405312) = false) (ia : (Go.bits .andNot .u64 a 9223372036854775808 == 9218868437227405312) = false) (ib : (Go.bits .andNot .u64 b 9223372036854775808 == 9218868437227405312) = false) (za : (Go.bits .andNot .u64 a 9223372036854775808 == 0) = true) (zb : (Go.bits .andNot .u64 b 9223372036854775808 == 0) = false) (o1 : moidoreref03_open.f a = some (s, 0, m, E1, false)) (o2 : moidoreref03_open.f b = some (t, 0, n, E2, false)) (h1 : E2 ≤ E1) (h2 : 64 < E1 - E2) (e1 : -2000 ≤ E1) (e2 : -2000 ≤ E2) (e3 : E1 ≤ 2000) (e4 : E2 ≤ 2000) (hri : moidoreref03_right.f 0 n (E1 - E2 - 64) = some (z, my, true)) (hl : moidoreref03_left.f 0 m 64 = some (hi, lo)) (ne : (s == t) = false) (hge : (hi == 0) = false ∨ ((hi == 0) = true ∧ my ≤ lo)) (hx : bits_Sub64.f lo my 0 = some (lo2, c)) (hx3 : bits_Sub64.f lo2 1 0 = some (lo3, c3)) (hnz : (IntKind.u64.wrap (IntKind.u64.wrap (hi - c) - c3) == 0) = false) (hr : moidoreref03_rounded.f k s (IntKind.u64.wrap (IntKind.u64.wrap (hi - c) - c3)) lo3 (E1 - 64) true = some r) :
    Calls Try.prog 26 #[.int .u64 a, .int .u64 b] w fun e w' => e = .returned (.int .u64 r) ∧ Qt w w' := by
  have N1 : Hid (moidoreref03_none.f a = some false) := Lib.hid (by unfold moidoreref03_none.f; rw [ha])
  have N2 : Hid (moidoreref03_none.f b = some false) := Lib.hid (by unfold moidoreref03_none.f; rw [hb])
  have O1 := Lib.hid o1
  have O2 := Lib.hid o2
  have HL := Lib.hid hl
  have HI := Lib.hid hri
  have HR := Lib.hid hr
  have hx := bits_Sub64.run _ _ _ _ _ hx
  have hx3 := bits_Sub64.run _ _ _ _ _ hx3
  clear ha hb o1 o2 hl hri hr
  rcases hge with hge | ⟨hge, hge2⟩
  all_goals
    go_enter Try.func26, Try.ntmps26
    go_wp2_with (first
      | (go_at_call 52; (with_reducible refine (moidoreref03_none.calls a false _ N1.out).mono ?_); rintro e w1 ⟨rfl, ⟨nd, rfl⟩⟩)
      | (go_at_call 52; (with_reducible refine (moidoreref03_none.calls b false _ N2.out).mono ?_); rintro e w1 ⟨rfl, ⟨nd, rfl⟩⟩)
      | (go_at_call 49; (with_reducible refine (moidoreref03_open.calls a _ _ _ _ _ _ O1.out).mono ?_); rintro e w1 ⟨rfl, q1⟩; have Q1 := Lib.hid q1; clear q1)
      | (go_at_call 49; (with_reducible refine (moidoreref03_open.calls b _ _ _ _ _ _ O2.out).mono ?_); rintro e w2 ⟨rfl, q2⟩; have Q2 := Lib.hid q2; clear q2)
      | (go_at_call 50; (with_reducible refine (moidoreref03_right.calls 0 n (E1 - E2 - 64) _ _ _ _ HI.out).mono ?_); rintro e w3 ⟨rfl, ⟨nd3, rfl⟩⟩)
      | (go_at_call 51; (with_reducible refine (moidoreref03_left.calls 0 m 64 _ _ _ HL.out).mono ?_); rintro e w3 ⟨rfl, ⟨nd3, rfl⟩⟩)
      | (go_at_call 54; (with_reducible refine (moidoreref03_rounded.calls k s _ _ _ _ _ _ HR.out).mono ?_); rintro e w4 ⟨rfl, q4⟩; have Q4 := Lib.hid q4; clear q4))
    go_ret
    exact ⟨rfl, Qt.trans (qt_drewN (qt_alloc (qt_alloc (qt_alloc (Below.trans (Qt.trans (qt_drewN (Below.refl _ _) _) Q1.out) (Below.mono Q2.out (Below.size (Qt.trans (qt_drewN (Below.refl _ _) _) Q1.out)))) _) _) _) _) Q4.out⟩
theorem add_nf_more (a b : Int) (w : World) (s t : Bool) (m n E1 E2 hi lo lo2 c r : Int) (k : Nat) (z my : Int) (lo3 c3 : Int) (ha : decide (Go.bits .andNot .u64 a 9223372036854775808 > 9218868437227405312) = false) (hb : decide (Go.bits .andNot .u64 b 9223372036854775808 > 9218868437227405312) = false) (ia : (Go.bits .andNot .u64 a 9223372036854775808 == 9218868437227405312) = false) (ib : (Go.bits .andNot .u64 b 9223372036854775808 == 9218868437227405312) = false) (zz : (Go.bits .andNot .u64 a 9223372036854775808 == 0) = false ∨ ((Go.bits .andNot .u64 a 9223372036854775808 == 0) = true ∧ (Go.bits .andNot .u64 b 9223372036854775808 == 0) = false)) (o1 : moidoreref03_open.f a = some (s, 0, m, E1, false)) (o2 : moidoreref03_open.f b = some (t, 0, n, E2, false)) (h1 : E2 ≤ E1) (h2 : 64 < E1 - E2) (e1 : -2000 ≤ E1) (e2 : -2000 ≤ E2) (e3 : E1 ≤ 2000) (e4 : E2 ≤ 2000) (hri : moidoreref03_right.f 0 n (E1 - E2 - 64) = some (z, my, true)) (hl : moidoreref03_left.f 0 m 64 = some (hi, lo)) (ne : (s == t) = false) (hge : (hi == 0) = false ∨ ((hi == 0) = true ∧ my ≤ lo)) (hx : bits_Sub64.f lo my 0 = some (lo2, c)) (hx3 : bits_Sub64.f lo2 1 0 = some (lo3, c3)) (hnz : (IntKind.u64.wrap (IntKind.u64.wrap (hi - c) - c3) == 0) = false) (hr : moidoreref03_rounded.f k s (IntKind.u64.wrap (IntKind.u64.wrap (hi - c) - c3)) lo3 (E1 - 64) true = some r) :
    Calls Try.prog 26 #[.int .u64 a, .int .u64 b] w fun e w' => e = .returned (.int .u64 r) ∧ Qt w w' := by
  rcases zz with za | ⟨za, zb⟩
  · exact add_nf_morea a b w s t m n E1 E2 hi lo lo2 c r k z my lo3 c3 ha hb ia ib za o1 o2 h1 h2 e1 e2 e3 e4 hri hl ne hge hx hx3 hnz hr
  · exact add_nf_moreb a b w s t m n E1 E2 hi lo lo2 c r k z my lo3 c3 ha hb ia ib za zb o1 o2 h1 h2 e1 e2 e3 e4 hri hl ne hge hx hx3 hnz hr

set_option maxRecDepth 100000 in
set_option maxHeartbeats 4000000 in
theorem add_sc_samea (a b : Int) (w : World) (s : Bool) (m n E1 E2 hi lo lo2 c r : Int) (k : Nat) (ha : decide (Go.bits .andNot .u64 a 9223372036854775808 > 9218868437227405312) = false) (hb : decide (Go.bits .andNot .u64 b 9223372036854775808 > 9218868437227405312) = false) (ia : (Go.bits .andNot .u64 a 9223372036854775808 == 9218868437227405312) = false) (ib : (Go.bits .andNot .u64 b 9223372036854775808 == 9218868437227405312) = false) (za : (Go.bits .andNot .u64 a 9223372036854775808 == 0) = false) (o1 : moidoreref03_open.f a = some (s, 0, m, E1, false)) (o2 : moidoreref03_open.f b = some (s, 0, n, E2, false)) (h1 : E1 < E2) (h2 : E2 - E1 ≤ 64) (e1 : -2000 ≤ E1) (e2 : -2000 ≤ E2) (e3 : E1 ≤ 2000) (e4 : E2 ≤ 2000) (hl : moidoreref03_left.f 0 n (E2 - E1) = some (hi, lo)) (hx : bits_Add64.f lo m 0 = some (lo2, c)) (hr : moidoreref03_rounded.f k s (IntKind.u64.wrap (hi + c)) lo2 E1 false = some r) :
    Calls Try.prog 26 #[.int .u64 a, .int .u64 b] w fun e w' => e = .returned (.int .u64 r) ∧ Qt w w' := by
  have N1 : Hid (moidoreref03_none.f a = some false) := Lib.hid (by unfold moidoreref03_none.f; rw [ha])
  have N2 : Hid (moidoreref03_none.f b = some false) := Lib.hid (by unfold moidoreref03_none.f; rw [hb])
  have O1 := Lib.hid o1
  have O2 := Lib.hid o2
  have HL := Lib.hid hl
  have HR := Lib.hid hr
  have hx := bits_Add64.run _ _ _ _ _ hx
  clear ha hb o1 o2 hl hr
  go_enter Try.func26, Try.ntmps26
  go_wp2_with (first
    | (go_at_call 52; (with_reducible refine (moidoreref03_none.calls a false _ N1.out).mono ?_); rintro e w1 ⟨rfl, ⟨nd, rfl⟩⟩)
    | (go_at_call 52; (with_reducible refine (moidoreref03_none.calls b false _ N2.out).mono ?_); rintro e w1 ⟨rfl, ⟨nd, rfl⟩⟩)
    | (go_at_call 49; (with_reducible refine (moidoreref03_open.calls a _ _ _ _ _ _ O1.out).mono ?_); rintro e w1 ⟨rfl, q1⟩; have Q1 := Lib.hid q1; clear q1)
    | (go_at_call 49; (with_reducible refine (moidoreref03_open.calls b _ _ _ _ _ _ O2.out).mono ?_); rintro e w2 ⟨rfl, q2⟩; have Q2 := Lib.hid q2; clear q2)
    | (go_at_call 51; (with_reducible refine (moidoreref03_left.calls 0 n (E2 - E1) _ _ _ HL.out).mono ?_); rintro e w3 ⟨rfl, ⟨nd3, rfl⟩⟩)
    | (go_at_call 54; (with_reducible refine (moidoreref03_rounded.calls k s _ _ _ _ _ _ HR.out).mono ?_); rintro e w4 ⟨rfl, q4⟩; have Q4 := Lib.hid q4; clear q4))
  go_ret
  exact ⟨rfl, Qt.trans (qt_drewN (qt_alloc (qt_alloc (qt_alloc (Below.trans (Qt.trans (qt_drewN (Below.refl _ _) _) Q1.out) (Below.mono Q2.out (Below.size (Qt.trans (qt_drewN (Below.refl _ _) _) Q1.out)))) _) _) _) _) Q4.out⟩

set_option maxRecDepth 100000 in
set_option maxHeartbeats 4000000 in
theorem add_sc_lta (a b : Int) (w : World) (s t : Bool) (m n E1 E2 hi lo lo2 c r : Int) (k : Nat) (ha : decide (Go.bits .andNot .u64 a 9223372036854775808 > 9218868437227405312) = false) (hb : decide (Go.bits .andNot .u64 b 9223372036854775808 > 9218868437227405312) = false) (ia : (Go.bits .andNot .u64 a 9223372036854775808 == 9218868437227405312) = false) (ib : (Go.bits .andNot .u64 b 9223372036854775808 == 9218868437227405312) = false) (za : (Go.bits .andNot .u64 a 9223372036854775808 == 0) = false) (o1 : moidoreref03_open.f a = some (s, 0, m, E1, false)) (o2 : moidoreref03_open.f b = some (t, 0, n, E2, false)) (h1 : E1 < E2) (h2 : E2 - E1 ≤ 64) (e1 : -2000 ≤ E1) (e2 : -2000 ≤ E2) (e3 : E1 ≤ 2000) (e4 : E2 ≤ 2000) (hl : moidoreref03_left.f 0 n (E2 - E1) = some (hi, lo)) (ne : (t == s) = false) (hi0 : hi = 0) (hlt : lo < m) (hr : moidoreref03_rounded.f k s 0 (IntKind.u64.wrap (m - lo)) E1 false = some r) :
    Calls Try.prog 26 #[.int .u64 a, .int .u64 b] w fun e w' => e = .returned (.int .u64 r) ∧ Qt w w' := by
  have N1 : Hid (moidoreref03_none.f a = some false) := Lib.hid (by unfold moidoreref03_none.f; rw [ha])
  have N2 : Hid (moidoreref03_none.f b = some false) := Lib.hid (by unfold moidoreref03_none.f; rw [hb])
  have O1 := Lib.hid o1
  have O2 := Lib.hid o2
  have HL := Lib.hid hl
  have HR := Lib.hid hr
  subst hi0
  clear ha hb o1 o2 hl hr
  go_enter Try.func26, Try.ntmps26
  go_wp2_with (first
    | (go_at_call 52; (with_reducible refine (moidoreref03_none.calls a false _ N1.out).mono ?_); rintro e w1 ⟨rfl, ⟨nd, rfl⟩⟩)
    | (go_at_call 52; (with_reducible refine (moidoreref03_none.calls b false _ N2.out).mono ?_); rintro e w1 ⟨rfl, ⟨nd, rfl⟩⟩)
    | (go_at_call 49; (with_reducible refine (moidoreref03_open.calls a _ _ _ _ _ _ O1.out).mono ?_); rintro e w1 ⟨rfl, q1⟩; have Q1 := Lib.hid q1; clear q1)
    | (go_at_call 49; (with_reducible refine (moidoreref03_open.calls b _ _ _ _ _ _ O2.out).mono ?_); rintro e w2 ⟨rfl, q2⟩; have Q2 := Lib.hid q2; clear q2)
    | (go_at_call 51; (with_reducible refine (moidoreref03_left.calls 0 n (E2 - E1) _ _ _ HL.out).mono ?_); rintro e w3 ⟨rfl, ⟨nd3, rfl⟩⟩)
    | (go_at_call 54; (with_reducible refine (moidoreref03_rounded.calls k s _ _ _ _ _ _ HR.out).mono ?_); rintro e w4 ⟨rfl, q4⟩; have Q4 := Lib.hid q4; clear q4))
  go_ret
  exact ⟨rfl, Qt.trans (qt_drewN (qt_alloc (qt_alloc (qt_alloc (Below.trans (Qt.trans (qt_drewN (Below.refl _ _) _) Q1.out) (Below.mono Q2.out (Below.size (Qt.trans (qt_drewN (Below.refl _ _) _) Q1.out)))) _) _) _) _) Q4.out⟩

set_option maxRecDepth 100000 in
set_option maxHeartbeats 4000000 in
theorem add_sc_zeroa (a b : Int) (w : World) (s t : Bool) (m n E1 E2 hi lo lo2 c r : Int) (k : Nat) (ha : decide (Go.bits .andNot .u64 a 9223372036854775808 > 9218868437227405312) = false) (hb : decide (Go.bits .andNot .u64 b 9223372036854775808 > 9218868437227405312) = false) (ia : (Go.bits .andNot .u64 a 9223372036854775808 == 9218868437227405312) = false) (ib : (Go.bits .andNot .u64 b 9223372036854775808 == 9218868437227405312) = false) (za : (Go.bits .andNot .u64 a 9223372036854775808 == 0) = false) (o1 : moidoreref03_open.f a = some (s, 0, m, E1, false)) (o2 : moidoreref03_open.f b = some (t, 0, n, E2, false)) (h1 : E1 < E2) (h2 : E2 - E1 ≤ 64) (e1 : -2000 ≤ E1) (e2 : -2000 ≤ E2) (e3 : E1 ≤ 2000) (e4 : E2 ≤ 2000) (hl : moidoreref03_left.f 0 n (E2 - E1) = some (hi, lo)) (ne : (t == s) = false) (hge : (hi == 0) = false ∨ ((hi == 0) = true ∧ m ≤ lo)) (hx : bits_Sub64.f lo m 0 = some (lo2, c)) (hz : (IntKind.u64.wrap (hi - c) == 0) = true) (lz : (lo2 == 0) = true) :
    Calls Try.prog 26 #[.int .u64 a, .int .u64 b] w fun e w' => e = .returned (.int .u64 0) ∧ Qt w w' := by
  have N1 : Hid (moidoreref03_none.f a = some false) := Lib.hid (by unfold moidoreref03_none.f; rw [ha])
  have N2 : Hid (moidoreref03_none.f b = some false) := Lib.hid (by unfold moidoreref03_none.f; rw [hb])
  have O1 := Lib.hid o1
  have O2 := Lib.hid o2
  have HL := Lib.hid hl
  have hx := bits_Sub64.run _ _ _ _ _ hx
  clear ha hb o1 o2 hl
  rcases hge with hge | ⟨hge, hge2⟩
  all_goals
    go_enter Try.func26, Try.ntmps26
    go_wp2_with (first
      | (go_at_call 52; (with_reducible refine (moidoreref03_none.calls a false _ N1.out).mono ?_); rintro e w1 ⟨rfl, ⟨nd, rfl⟩⟩)
      | (go_at_call 52; (with_reducible refine (moidoreref03_none.calls b false _ N2.out).mono ?_); rintro e w1 ⟨rfl, ⟨nd, rfl⟩⟩)
      | (go_at_call 49; (with_reducible refine (moidoreref03_open.calls a _ _ _ _ _ _ O1.out).mono ?_); rintro e w1 ⟨rfl, q1⟩; have Q1 := Lib.hid q1; clear q1)
      | (go_at_call 49; (with_reducible refine (moidoreref03_open.calls b _ _ _ _ _ _ O2.out).mono ?_); rintro e w2 ⟨rfl, q2⟩; have Q2 := Lib.hid q2; clear q2)
      | (go_at_call 51; (with_reducible refine (moidoreref03_left.calls 0 n (E2 - E1) _ _ _ HL.out).mono ?_); rintro e w3 ⟨rfl, ⟨nd3, rfl⟩⟩))
    go_ret
    exact ⟨rfl, (qt_drewN (qt_alloc (qt_alloc (qt_alloc (Below.trans (Qt.trans (qt_drewN (Below.refl _ _) _) Q1.out) (Below.mono Q2.out (Below.size (Qt.trans (qt_drewN (Below.refl _ _) _) Q1.out)))) _) _) _) _)⟩

set_option maxRecDepth 100000 in
set_option maxHeartbeats 4000000 in
theorem add_sc_hia (a b : Int) (w : World) (s t : Bool) (m n E1 E2 hi lo lo2 c r : Int) (k : Nat) (ha : decide (Go.bits .andNot .u64 a 9223372036854775808 > 9218868437227405312) = false) (hb : decide (Go.bits .andNot .u64 b 9223372036854775808 > 9218868437227405312) = false) (ia : (Go.bits .andNot .u64 a 9223372036854775808 == 9218868437227405312) = false) (ib : (Go.bits .andNot .u64 b 9223372036854775808 == 9218868437227405312) = false) (za : (Go.bits .andNot .u64 a 9223372036854775808 == 0) = false) (o1 : moidoreref03_open.f a = some (s, 0, m, E1, false)) (o2 : moidoreref03_open.f b = some (t, 0, n, E2, false)) (h1 : E1 < E2) (h2 : E2 - E1 ≤ 64) (e1 : -2000 ≤ E1) (e2 : -2000 ≤ E2) (e3 : E1 ≤ 2000) (e4 : E2 ≤ 2000) (hl : moidoreref03_left.f 0 n (E2 - E1) = some (hi, lo)) (ne : (t == s) = false) (hge : (hi == 0) = false ∨ ((hi == 0) = true ∧ m ≤ lo)) (hx : bits_Sub64.f lo m 0 = some (lo2, c)) (hz : (IntKind.u64.wrap (hi - c) == 0) = false) (hr : moidoreref03_rounded.f k t (IntKind.u64.wrap (hi - c)) lo2 E1 false = some r) :
    Calls Try.prog 26 #[.int .u64 a, .int .u64 b] w fun e w' => e = .returned (.int .u64 r) ∧ Qt w w' := by
  have N1 : Hid (moidoreref03_none.f a = some false) := Lib.hid (by unfold moidoreref03_none.f; rw [ha])
  have N2 : Hid (moidoreref03_none.f b = some false) := Lib.hid (by unfold moidoreref03_none.f; rw [hb])
  have O1 := Lib.hid o1
  have O2 := Lib.hid o2
  have HL := Lib.hid hl
  have HR := Lib.hid hr
  have hx := bits_Sub64.run _ _ _ _ _ hx
  clear ha hb o1 o2 hl hr
  rcases hge with hge | ⟨hge, hge2⟩
  all_goals
    go_enter Try.func26, Try.ntmps26
    go_wp2_with (first
      | (go_at_call 52; (with_reducible refine (moidoreref03_none.calls a false _ N1.out).mono ?_); rintro e w1 ⟨rfl, ⟨nd, rfl⟩⟩)
      | (go_at_call 52; (with_reducible refine (moidoreref03_none.calls b false _ N2.out).mono ?_); rintro e w1 ⟨rfl, ⟨nd, rfl⟩⟩)
      | (go_at_call 49; (with_reducible refine (moidoreref03_open.calls a _ _ _ _ _ _ O1.out).mono ?_); rintro e w1 ⟨rfl, q1⟩; have Q1 := Lib.hid q1; clear q1)
      | (go_at_call 49; (with_reducible refine (moidoreref03_open.calls b _ _ _ _ _ _ O2.out).mono ?_); rintro e w2 ⟨rfl, q2⟩; have Q2 := Lib.hid q2; clear q2)
      | (go_at_call 51; (with_reducible refine (moidoreref03_left.calls 0 n (E2 - E1) _ _ _ HL.out).mono ?_); rintro e w3 ⟨rfl, ⟨nd3, rfl⟩⟩)
      | (go_at_call 54; (with_reducible refine (moidoreref03_rounded.calls k t _ _ _ _ _ _ HR.out).mono ?_); rintro e w4 ⟨rfl, q4⟩; have Q4 := Lib.hid q4; clear q4))
    go_ret
    exact ⟨rfl, Qt.trans (qt_drewN (qt_alloc (qt_alloc (qt_alloc (Below.trans (Qt.trans (qt_drewN (Below.refl _ _) _) Q1.out) (Below.mono Q2.out (Below.size (Qt.trans (qt_drewN (Below.refl _ _) _) Q1.out)))) _) _) _) _) Q4.out⟩

set_option maxRecDepth 100000 in
set_option maxHeartbeats 4000000 in
theorem add_sc_loa (a b : Int) (w : World) (s t : Bool) (m n E1 E2 hi lo lo2 c r : Int) (k : Nat) (ha : decide (Go.bits .andNot .u64 a 9223372036854775808 > 9218868437227405312) = false) (hb : decide (Go.bits .andNot .u64 b 9223372036854775808 > 9218868437227405312) = false) (ia : (Go.bits .andNot .u64 a 9223372036854775808 == 9218868437227405312) = false) (ib : (Go.bits .andNot .u64 b 9223372036854775808 == 9218868437227405312) = false) (za : (Go.bits .andNot .u64 a 9223372036854775808 == 0) = false) (o1 : moidoreref03_open.f a = some (s, 0, m, E1, false)) (o2 : moidoreref03_open.f b = some (t, 0, n, E2, false)) (h1 : E1 < E2) (h2 : E2 - E1 ≤ 64) (e1 : -2000 ≤ E1) (e2 : -2000 ≤ E2) (e3 : E1 ≤ 2000) (e4 : E2 ≤ 2000) (hl : moidoreref03_left.f 0 n (E2 - E1) = some (hi, lo)) (ne : (t == s) = false) (hge : (hi == 0) = false ∨ ((hi == 0) = true ∧ m ≤ lo)) (hx : bits_Sub64.f lo m 0 = some (lo2, c)) (hz : (IntKind.u64.wrap (hi - c) == 0) = true) (lz : (lo2 == 0) = false) (hr : moidoreref03_rounded.f k t (IntKind.u64.wrap (hi - c)) lo2 E1 false = some r) :
    Calls Try.prog 26 #[.int .u64 a, .int .u64 b] w fun e w' => e = .returned (.int .u64 r) ∧ Qt w w' := by
  have N1 : Hid (moidoreref03_none.f a = some false) := Lib.hid (by unfold moidoreref03_none.f; rw [ha])
  have N2 : Hid (moidoreref03_none.f b = some false) := Lib.hid (by unfold moidoreref03_none.f; rw [hb])
  have O1 := Lib.hid o1
  have O2 := Lib.hid o2
  have HL := Lib.hid hl
  have HR := Lib.hid hr
  have hx := bits_Sub64.run _ _ _ _ _ hx
  clear ha hb o1 o2 hl hr
  rcases hge with hge | ⟨hge, hge2⟩
  all_goals
    go_enter Try.func26, Try.ntmps26
    go_wp2_with (first
      | (go_at_call 52; (with_reducible refine (moidoreref03_none.calls a false _ N1.out).mono ?_); rintro e w1 ⟨rfl, ⟨nd, rfl⟩⟩)
      | (go_at_call 52; (with_reducible refine (moidoreref03_none.calls b false _ N2.out).mono ?_); rintro e w1 ⟨rfl, ⟨nd, rfl⟩⟩)
      | (go_at_call 49; (with_reducible refine (moidoreref03_open.calls a _ _ _ _ _ _ O1.out).mono ?_); rintro e w1 ⟨rfl, q1⟩; have Q1 := Lib.hid q1; clear q1)
      | (go_at_call 49; (with_reducible refine (moidoreref03_open.calls b _ _ _ _ _ _ O2.out).mono ?_); rintro e w2 ⟨rfl, q2⟩; have Q2 := Lib.hid q2; clear q2)
      | (go_at_call 51; (with_reducible refine (moidoreref03_left.calls 0 n (E2 - E1) _ _ _ HL.out).mono ?_); rintro e w3 ⟨rfl, ⟨nd3, rfl⟩⟩)
      | (go_at_call 54; (with_reducible refine (moidoreref03_rounded.calls k t _ _ _ _ _ _ HR.out).mono ?_); rintro e w4 ⟨rfl, q4⟩; have Q4 := Lib.hid q4; clear q4))
    go_ret
    exact ⟨rfl, Qt.trans (qt_drewN (qt_alloc (qt_alloc (qt_alloc (Below.trans (Qt.trans (qt_drewN (Below.refl _ _) _) Q1.out) (Below.mono Q2.out (Below.size (Qt.trans (qt_drewN (Below.refl _ _) _) Q1.out)))) _) _) _) _) Q4.out⟩

set_option maxRecDepth 100000 in
set_option maxHeartbeats 4000000 in
theorem add_sf_samea (a b : Int) (w : World) (s : Bool) (m n E1 E2 hi lo lo2 c r : Int) (k : Nat) (z my : Int) (more : Bool) (ha : decide (Go.bits .andNot .u64 a 9223372036854775808 > 9218868437227405312) = false) (hb : decide (Go.bits .andNot .u64 b 9223372036854775808 > 9218868437227405312) = false) (ia : (Go.bits .andNot .u64 a 9223372036854775808 == 9218868437227405312) = false) (ib : (Go.bits .andNot .u64 b 9223372036854775808 == 9218868437227405312) = false) (za : (Go.bits .andNot .u64 a 9223372036854775808 == 0) = false) (o1 : moidoreref03_open.f a = some (s, 0, m, E1, false)) (o2 : moidoreref03_open.f b = some (s, 0, n, E2, false)) (h1 : E1 < E2) (h2 : 64 < E2 - E1) (e1 : -2000 ≤ E1) (e2 : -2000 ≤ E2) (e3 : E1 ≤ 2000) (e4 : E2 ≤ 2000) (hri : moidoreref03_right.f 0 m (E2 - E1 - 64) = some (z, my, more)) (hl : moidoreref03_left.f 0 n 64 = some (hi, lo)) (hx : bits_Add64.f lo my 0 = some (lo2, c)) (hr : moidoreref03_rounded.f k s (IntKind.u64.wrap (hi + c)) lo2 (E2 - 64) more = some r) :
    Calls Try.prog 26 #[.int .u64 a, .int .u64 b] w fun e w' => e = .returned (.int .u64 r) ∧ Qt w w' := by
  have N1 : Hid (moidoreref03_none.f a = some false) := Lib.hid (by unfold moidoreref03_none.f; rw [ha])
  have N2 : Hid (moidoreref03_none.f b = some false) := Lib.hid (by unfold moidoreref03_none.f; rw [hb])
  have O1 := Lib.hid o1
  have O2 := Lib.hid o2
  have HL := Lib.hid hl
  have HI := Lib.hid hri
  have HR := Lib.hid hr
  have hx := bits_Add64.run _ _ _ _ _ hx
  clear ha hb o1 o2 hl hri hr
  go_enter Try.func26, Try.ntmps26
  go_wp2_with (first
    | (go_at_call 52; (with_reducible refine (moidoreref03_none.calls a false _ N1.out).mono ?_); rintro e w1 ⟨rfl, ⟨nd, rfl⟩⟩)
    | (go_at_call 52; (with_reducible refine (moidoreref03_none.calls b false _ N2.out).mono ?_); rintro e w1 ⟨rfl, ⟨nd, rfl⟩⟩)
    | (go_at_call 49; (with_reducible refine (moidoreref03_open.calls a _ _ _ _ _ _ O1.out).mono ?_); rintro e w1 ⟨rfl, q1⟩; have Q1 := Lib.hid q1; clear q1)
    | (go_at_call 49; (with_reducible refine (moidoreref03_open.calls b _ _ _ _ _ _ O2.out).mono ?_); rintro e w2 ⟨rfl, q2⟩; have Q2 := Lib.hid q2; clear q2)
    | (go_at_call 50; (with_reducible refine (moidoreref03_right.calls 0 m (E2 - E1 - 64) _ _ _ _ HI.out).mono ?_); rintro e w3 ⟨rfl, ⟨nd3, rfl⟩⟩)
    | (go_at_call 51; (with_reducible refine (moidoreref03_left.calls 0 n 64 _ _ _ HL.out).mono ?_); rintro e w3 ⟨rfl, ⟨nd3, rfl⟩⟩)
    | (go_at_call 54; (with_reducible refine (moidoreref03_rounded.calls k s _ _ _ _ _ _ HR.out).mono ?_); rintro e w4 ⟨rfl, q4⟩; have Q4 := Lib.hid q4; clear q4))
  go_ret
  exact ⟨rfl, Qt.trans (qt_drewN (qt_alloc (qt_alloc (qt_alloc (Below.trans (Qt.trans (qt_drewN (Below.refl _ _) _) Q1.out) (Below.mono Q2.out (Below.size (Qt.trans (qt_drewN (Below.refl _ _) _) Q1.out)))) _) _) _) _) Q4.out⟩

set_option maxRecDepth 100000 in
set_option maxHeartbeats 4000000 in
theorem add_sf_hia (a b : Int) (w : World) (s t : Bool) (m n E1 E2 hi lo lo2 c r : Int) (k : Nat) (z my : Int) (ha : decide (Go.bits .andNot .u64 a 9223372036854775808 > 9218868437227405312) = false) (hb : decide (Go.bits .andNot .u64 b 9223372036854775808 > 9218868437227405312) = false) (ia : (Go.bits .andNot .u64 a 9223372036854775808 == 9218868437227405312) = false) (ib : (Go.bits .andNot .u64 b 9223372036854775808 == 9218868437227405312) = false) (za : (Go.bits .andNot .u64 a 9223372036854775808 == 0) = false) (o1 : moidoreref03_open.f a = some (s, 0, m, E1, false)) (o2 : moidoreref03_open.f b = some (t, 0, n, E2, false)) (h1 : E1 < E2) (h2 : 64 < E2 - E1) (e1 : -2000 ≤ E1) (e2 : -2000 ≤ E2) (e3 : E1 ≤ 2000) (e4 : E2 ≤ 2000) (hri : moidoreref03_right.f 0 m (E2 - E1 - 64) = some (z, my, false)) (hl : moidoreref03_left.f 0 n 64 = some (hi, lo)) (ne : (t == s) = false) (hge : (hi == 0) = false ∨ ((hi == 0) = true ∧ my ≤ lo)) (hx : bits_Sub64.f lo my 0 = some (lo2, c)) (hz : (IntKind.u64.wrap (hi - c) == 0) = false) (hr : moidoreref03_rounded.f k t (IntKind.u64.wrap (hi - c)) lo2 (E2 - 64) false = some r) :
    Calls Try.prog 26 #[.int .u64 a, .int .u64 b] w fun e w' => e = .returned (.int .u64 r) ∧ Qt w w' := by
  have N1 : Hid (moidoreref03_none.f a = some false) := Lib.hid (by unfold moidoreref03_none.f; rw [ha])
  have N2 : Hid (moidoreref03_none.f b = some false) := Lib.hid (by unfold moidoreref03_none.f; rw [hb])
  have O1 := Lib.hid o1
  have O2 := Lib.hid o2
  have HL := Lib.hid hl
  have HI := Lib.hid hri
  have HR := Lib.hid hr
  have hx := bits_Sub64.run _ _ _ _ _ hx
  clear ha hb o1 o2 hl hri hr
  rcases hge with hge | ⟨hge, hge2⟩
  all_goals
    go_enter Try.func26, Try.ntmps26
    go_wp2_with (first
      | (go_at_call 52; (with_reducible refine (moidoreref03_none.calls a false _ N1.out).mono ?_); rintro e w1 ⟨rfl, ⟨nd, rfl⟩⟩)
      | (go_at_call 52; (with_reducible refine (moidoreref03_none.calls b false _ N2.out).mono ?_); rintro e w1 ⟨rfl, ⟨nd, rfl⟩⟩)
      | (go_at_call 49; (with_reducible refine (moidoreref03_open.calls a _ _ _ _ _ _ O1.out).mono ?_); rintro e w1 ⟨rfl, q1⟩; have Q1 := Lib.hid q1; clear q1)
      | (go_at_call 49; (with_reducible refine (moidoreref03_open.calls b _ _ _ _ _ _ O2.out).mono ?_); rintro e w2 ⟨rfl, q2⟩; have Q2 := Lib.hid q2; clear q2)
      | (go_at_call 50; (with_reducible refine (moidoreref03_right.calls 0 m (E2 - E1 - 64) _ _ _ _ HI.out).mono ?_); rintro e w3 ⟨rfl, ⟨nd3, rfl⟩⟩)
      | (go_at_call 51; (with_reducible refine (moidoreref03_left.calls 0 n 64 _ _ _ HL.out).mono ?_); rintro e w3 ⟨rfl, ⟨nd3, rfl⟩⟩)
      | (go_at_call 54; (with_reducible refine (moidoreref03_rounded.calls k t _ _ _ _ _ _ HR.out).mono ?_); rintro e w4 ⟨rfl, q4⟩; have Q4 := Lib.hid q4; clear q4))
    go_ret
    exact ⟨rfl, Qt.trans (qt_drewN (qt_alloc (qt_alloc (qt_alloc (Below.trans (Qt.trans (qt_drewN (Below.refl _ _) _) Q1.out) (Below.mono Q2.out (Below.size (Qt.trans (qt_drewN (Below.refl _ _) _) Q1.out)))) _) _) _) _) Q4.out⟩

set_option maxRecDepth 100000 in
set_option maxHeartbeats 4000000 in
theorem add_sf_morea (a b : Int) (w : World) (s t : Bool) (m n E1 E2 hi lo lo2 c r : Int) (k : Nat) (z my : Int) (lo3 c3 : Int) (ha : decide (Go.bits .andNot .u64 a 9223372036854775808 > 9218868437227405312) = false) (hb : decide (Go.bits .andNot .u64 b 9223372036854775808 > 9218868437227405312) = false) (ia : (Go.bits .andNot .u64 a 9223372036854775808 == 9218868437227405312) = false) (ib : (Go.bits .andNot .u64 b 9223372036854775808 == 9218868437227405312) = false) (za : (Go.bits .andNot .u64 a 9223372036854775808 == 0) = false) (o1 : moidoreref03_open.f a = some (s, 0, m, E1, false)) (o2 : moidoreref03_open.f b = some (t, 0, n, E2, false)) (h1 : E1 < E2) (h2 : 64 < E2 - E1) (e1 : -2000 ≤ E1) (e2 : -2000 ≤ E2) (e3 : E1 ≤ 2000) (e4 : E2 ≤ 2000) (hri : moidoreref03_right.f 0 m (E2 - E1 - 64) = some (z, my, true)) (hl : moidoreref03_left.f 0 n 64 = some (hi, lo)) (ne : (t == s) = false) (hge : (hi == 0) = false ∨ ((hi == 0) = true ∧ my ≤ lo)) (hx : bits_Sub64.f lo my 0 = some (lo2, c)) (hx3 : bits_Sub64.f lo2 1 0 = some (lo3, c3)) (hnz : (IntKind.u64.wrap (IntKind.u64.wrap (hi - c) - c3) == 0) = false) (hr : moidoreref03_rounded.f k t (IntKind.u64.wrap (IntKind.u64.wrap (hi - c) - c3)) lo3 (E2 - 64) true = some r) :
    Calls Try.prog 26 #[.int .u64 a, .int .u64 b] w fun e w' => e = .returned (.int .u64 r) ∧ Qt w w' := by
  have N1 : Hid (moidoreref03_none.f a = some false) := Lib.hid (by unfold moidoreref03_none.f; rw [ha])
  have N2 : Hid (moidoreref03_none.f b = some false) := Lib.hid (by unfold moidoreref03_none.f; rw [hb])
  have O1 := Lib.hid o1
  have O2 := Lib.hid o2
  have HL := Lib.hid hl
  have HI := Lib.hid hri
  have HR := Lib.hid hr
  have hx := bits_Sub64.run _ _ _ _ _ hx
  have hx3 := bits_Sub64.run _ _ _ _ _ hx3
  clear ha hb o1 o2 hl hri hr
  rcases hge with hge | ⟨hge, hge2⟩
  all_goals
    go_enter Try.func26, Try.ntmps26
    go_wp2_with (first
      | (go_at_call 52; (with_reducible refine (moidoreref03_none.calls a false _ N1.out).mono ?_); rintro e w1 ⟨rfl, ⟨nd, rfl⟩⟩)
      | (go_at_call 52; (with_reducible refine (moidoreref03_none.calls b false _ N2.out).mono ?_); rintro e w1 ⟨rfl, ⟨nd, rfl⟩⟩)
      | (go_at_call 49; (with_reducible refine (moidoreref03_open.calls a _ _ _ _ _ _ O1.out).mono ?_); rintro e w1 ⟨rfl, q1⟩; have Q1 := Lib.hid q1; clear q1)
      | (go_at_call 49; (with_reducible refine (moidoreref03_open.calls b _ _ _ _ _ _ O2.out).mono ?_); rintro e w2 ⟨rfl, q2⟩; have Q2 := Lib.hid q2; clear q2)
      | (go_at_call 50; (with_reducible refine (moidoreref03_right.calls 0 m (E2 - E1 - 64) _ _ _ _ HI.out).mono ?_); rintro e w3 ⟨rfl, ⟨nd3, rfl⟩⟩)
      | (go_at_call 51; (with_reducible refine (moidoreref03_left.calls 0 n 64 _ _ _ HL.out).mono ?_); rintro e w3 ⟨rfl, ⟨nd3, rfl⟩⟩)
      | (go_at_call 54; (with_reducible refine (moidoreref03_rounded.calls k t _ _ _ _ _ _ HR.out).mono ?_); rintro e w4 ⟨rfl, q4⟩; have Q4 := Lib.hid q4; clear q4))
    go_ret
    exact ⟨rfl, Qt.trans (qt_drewN (qt_alloc (qt_alloc (qt_alloc (Below.trans (Qt.trans (qt_drewN (Below.refl _ _) _) Q1.out) (Below.mono Q2.out (Below.size (Qt.trans (qt_drewN (Below.refl _ _) _) Q1.out)))) _) _) _) _) Q4.out⟩

set_option maxRecDepth 100000 in
set_option maxHeartbeats 4000000 in
theorem add_sc_sameb (a b : Int) (w : World) (s : Bool) (m n E1 E2 hi lo lo2 c r : Int) (k : Nat) (ha : decide (Go.bits .andNot .u64 a 9223372036854775808 > 9218868437227405312) = false) (hb : decide (Go.bits .andNot .u64 b 9223372036854775808 > 9218868437227405312) = false) (ia : (Go.bits .andNot .u64 a 9223372036854775808 == 9218868437227405312) = false) (ib : (Go.bits .andNot .u64 b 9223372036854775808 == 9218868437227405312) = false) (za : (Go.bits .andNot .u64 a 9223372036854775808 == 0) = true) (zb : (Go.bits .andNot .u64 b 9223372036854775808 == 0) = false) (o1 : moidoreref03_open.f a = some (s, 0, m, E1, false)) (o2 : moidoreref03_open.f b = some (s, 0, n, E2, false)) (h1 : E1 < E2) (h2 : E2 - E1 ≤ 64) (e1 : -2000 ≤ E1) (e2 : -2000 ≤ E2) (e3 : E1 ≤ 2000) (e4 : E2 ≤ 2000) (hl : moidoreref03_left.f 0 n (E2 - E1) = some (hi, lo)) (hx : bits_Add64.f lo m 0 = some (lo2, c)) (hr : moidoreref03_rounded.f k s (IntKind.u64.wrap (hi + c)) lo2 E1 false = some r) :
    Calls Try.prog 26 #[.int .u64 a, .int .u64 b] w fun e w' => e = .returned (.int .u64 r) ∧ Qt w w' := by
  have N1 : Hid (moidoreref03_none.f a = some false) := Lib.hid (by unfold moidoreref03_none.f; rw [ha])
  have N2 : Hid (moidoreref03_none.f b = some false) := Lib.hid (by unfold moidoreref03_none.f; rw [hb])
  have O1 := Lib.hid o1
  have O2 := Lib.hid o2
  have HL := Lib.hid hl
  have HR := Lib.hid hr
  have hx := bits_Add64.run _ _ _ _ _ hx
  clear ha hb o1 o2 hl hr
  go_enter Try.func26, Try.ntmps26
  go_wp2_with (first
    | (go_at_call 52; (with_reducible refine (moidoreref03_none.calls a false _ N1.out).mono ?_); rintro e w1 ⟨rfl, ⟨nd, rfl⟩⟩)
    | (go_at_call 52; (with_reducible refine (moidoreref03_none.calls b false _ N2.out).mono ?_); rintro e w1 ⟨rfl, ⟨nd, rfl⟩⟩)
    | (go_at_call 49; (with_reducible refine (moidoreref03_open.calls a _ _ _ _ _ _ O1.out).mono ?_); rintro e w1 ⟨rfl, q1⟩; have Q1 := Lib.hid q1; clear q1)
    | (go_at_call 49; (with_reducible refine (moidoreref03_open.calls b _ _ _ _ _ _ O2.out).mono ?_); rintro e w2 ⟨rfl, q2⟩; have Q2 := Lib.hid q2; clear q2)
    | (go_at_call 51; (with_reducible refine (moidoreref03_left.calls 0 n (E2 - E1) _ _ _ HL.out).mono ?_); rintro e w3 ⟨rfl, ⟨nd3, rfl⟩⟩)
    | (go_at_call 54; (with_reducible refine (moidoreref03_rounded.calls k s _ _ _ _ _ _ HR.out).mono ?_); rintro e w4 ⟨rfl, q4⟩; have Q4 := Lib.hid q4; clear q4))
  go_ret
  exact ⟨rfl, Qt.trans (qt_drewN (qt_alloc (qt_alloc (qt_alloc (Below.trans (Qt.trans (qt_drewN (Below.refl _ _) _) Q1.out) (Below.mono Q2.out (Below.size (Qt.trans (qt_drewN (Below.refl _ _) _) Q1.out)))) _) _) _) _) Q4.out⟩
theorem add_sc_same (a b : Int) (w : World) (s : Bool) (m n E1 E2 hi lo lo2 c r : Int) (k : Nat) (ha : decide (Go.bits .andNot .u64 a 9223372036854775808 > 9218868437227405312) = false) (hb : decide (Go.bits .andNot .u64 b 9223372036854775808 > 9218868437227405312) = false) (ia : (Go.bits .andNot .u64 a 9223372036854775808 == 9218868437227405312) = false) (ib : (Go.bits .andNot .u64 b 9223372036854775808 == 9218868437227405312) = false) (zz : (Go.bits .andNot .u64 a 9223372036854775808 == 0) = false ∨ ((Go.bits .andNot .u64 a 9223372036854775808 == 0) = true ∧ (Go.bits .andNot .u64 b 9223372036854775808 == 0) = false)) (o1 : moidoreref03_open.f a = some (s, 0, m, E1, false)) (o2 : moidoreref03_open.f b = some (s, 0, n, E2, false)) (h1 : E1 < E2) (h2 : E2 - E1 ≤ 64) (e1 : -2000 ≤ E1) (e2 : -2000 ≤ E2) (e3 : E1 ≤ 2000) (e4 : E2 ≤ 2000) (hl : moidoreref03_left.f 0 n (E2 - E1) = some (hi, lo)) (hx : bits_Add64.f lo m 0 = some (lo2, c)) (hr : moidoreref03_rounded.f k s (IntKind.u64.wrap (hi + c)) lo2 E1 false = some r) :
    Calls Try.prog 26 #[.int .u64 a, .int .u64 b] w fun e w' => e = .returned (.int .u64 r) ∧ Qt w w' := by
  rcases zz with za | ⟨za, zb⟩
  · exact add_sc_samea a b w s m n E1 E2 hi lo lo2 c r k ha hb ia ib za o1 o2 h1 h2 e1 e2 e3 e4 hl hx hr
  · exact add_sc_sameb a b w s m n E1 E2 hi lo lo2 c r k ha hb ia ib za zb o1 o2 h1 h2 e1 e2 e3 e4 hl hx hr

set_option maxRecDepth 100000 in
set_option maxHeartbeats 4000000 in
theorem add_sc_ltb (a b : Int) (w : World) (s t : Bool) (m n E1 E2 hi lo lo2 c r : Int) (k : Nat) (ha : decide (Go.bits .andNot .u64 a 9223372036854775808 > 9218868437227405312) = false) (hb : decide (Go.bits .andNot .u64 b 9223372036854775808 > 9218868437227405312) = false) (ia : (Go.bits .andNot .u64 a 9223372036854775808 == 9218868437227405312) = false) (ib : (Go.bits .andNot .u64 b 9223372036854775808 == 9218868437227405312) = false) (za : (Go.bits .andNot .u64 a 9223372036854775808 == 0) = true) (zb : (Go.bits .andNot .u64 b 9223372036854775808 == 0) = false) (o1 : moidoreref03_open.f a = some (s, 0, m, E1, false)) (o2 : moidoreref03_open.f b = some (t, 0, n, E2, false)) (h1 : E1 < E2) (h2 : E2 - E1 ≤ 64) (e1 : -2000 ≤ E1) (e2 : -2000 ≤ E2) (e3 : E1 ≤ 2000) (e4 : E2 ≤ 2000) (hl : moidoreref03_left.f 0 n (E2 - E1) = some (hi, lo)) (ne : (t == s) = false) (hi0 : hi = 0) (hlt : lo < m) (hr : moidoreref03_rounded.f k s 0 (IntKind.u64.wrap (m - lo)) E1 false = some r) :
    Calls Try.prog 26 #[.int .u64 a, .int .u64 b] w fun e w' => e = .returned (.int .u64 r) ∧ Qt w w' := by
  have N1 : Hid (moidoreref03_none.f a = some false) := Lib.hid (by unfold moidoreref03_none.f; rw [ha])
  have N2 : Hid (moidoreref03_none.f b = some false) := Lib.hid (by unfold moidoreref03_none.f; rw [hb])
  have O1 := Lib.hid o1
  have O2 := Lib.hid o2
  have HL := Lib.hid hl
  have HR := Lib.hid hr
  subst hi0
  clear ha hb o1 o2 hl hr
  go_enter Try.func26, Try.ntmps26
  go_wp2_with (first
    | (go_at_call 52; (with_reducible refine (moidoreref03_none.calls a false _ N1.out).mono ?_); rintro e w1 ⟨rfl, ⟨nd, rfl⟩⟩)
    | (go_at_call 52; (with_reducible refine (moidoreref03_none.calls b false _ N2.out).mono ?_); rintro e w1 ⟨rfl, ⟨nd, rfl⟩⟩)
    | (go_at_call 49; (with_reducible refine (moidoreref03_open.calls a _ _ _ _ _ _ O1.out).mono ?_); rintro e w1 ⟨rfl, q1⟩; have Q1 := Lib.hid q1; clear q1)
    | (go_at_call 49; (with_reducible refine (moidoreref03_open.calls b _ _ _ _ _ _ O2.out).mono ?_); rintro e w2 ⟨rfl, q2⟩; have Q2 := Lib.hid q2; clear q2)
    | (go_at_call 51; (with_reducible refine (moidoreref03_left.calls 0 n (E2 - E1) _ _ _ HL.out).mono ?_); rintro e w3 ⟨rfl, ⟨nd3, rfl⟩⟩)
    | (go_at_call 54; (with_reducible refine (moidoreref03_rounded.calls k s _ _ _ _ _ _ HR.out).mono ?_); rintro e w4 ⟨rfl, q4⟩; have Q4 := Lib.hid q4; clear q4))
  go_ret
  exact ⟨rfl, Qt.trans (qt_drewN (qt_alloc (qt_alloc (qt_alloc (Below.trans (Qt.trans (qt_drewN (Below.refl _ _) _) Q1.out) (Below.mono Q2.out (Below.size (Qt.trans (qt_drewN (Below.refl _ _) _) Q1.out)))) _) _) _) _) Q4.out⟩
theorem add_sc_lt (a b : Int) (w : World) (s t : Bool) (m n E1 E2 hi lo lo2 c r : Int) (k : Nat) (ha : decide (Go.bits .andNot .u64 a 9223372036854775808 > 9218868437227405312) = false) (hb : decide (Go.bits .andNot .u64 b 9223372036854775808 > 9218868437227405312) = false) (ia : (Go.bits .andNot .u64 a 9223372036854775808 == 9218868437227405312) = false) (ib : (Go.bits .andNot .u64 b 9223372036854775808 == 9218868437227405312) = false) (zz : (Go.bits .andNot .u64 a 9223372036854775808 == 0) = false ∨ ((Go.bits .andNot .u64 a 9223372036854775808 == 0) = true ∧ (Go.bits .andNot .u64 b 9223372036854775808 == 0) = false)) (o1 : moidoreref03_open.f a = some (s, 0, m, E1, false)) (o2 : moidoreref03_open.f b = some (t, 0, n, E2, false)) (h1 : E1 < E2) (h2 : E2 - E1 ≤ 64) (e1 : -2000 ≤ E1) (e2 : -2000 ≤ E2) (e3 : E1 ≤ 2000) (e4 : E2 ≤ 2000) (hl : moidoreref03_left.f 0 n (E2 - E1) = some (hi, lo)) (ne : (t == s) = false) (hi0 : hi = 0) (hlt : lo < m) (hr : moidoreref03_rounded.f k s 0 (IntKind.u64.wrap (m - lo)) E1 false = some r) :
    Calls Try.prog 26 #[.int .u64 a, .int .u64 b] w fun e w' => e = .returned (.int .u64 r) ∧ Qt w w' := by
  rcases zz with za | ⟨za, zb⟩
  · exact add_sc_lta a b w s t m n E1 E2 hi lo lo2 c r k ha hb ia ib za o1 o2 h1 h2 e1 e2 e3 e4 hl ne hi0 hlt hr
  · exact add_sc_ltb a b w s t m n E1 E2 hi lo lo2 c r k ha hb ia ib za zb o1 o2 h1 h2 e1 e2 e3 e4 hl ne hi0 hlt hr

set_option maxRecDepth 100000 in
set_option maxHeartbeats 4000000 in
theorem add_sc_zerob (a b : Int) (w : World) (s t : Bool) (m n E1 E2 hi lo lo2 c r : Int) (k : Nat) (ha : decide (Go.bits .andNot .u64 a 9223372036854775808 > 9218868437227405312) = false) (hb : decide (Go.bits .andNot .u64 b 9223372036854775808 > 9218868437227405312) = false) (ia : (Go.bits .andNot .u64 a 9223372036854775808 == 9218868437227405312) = false) (ib : (Go.bits .andNot .u64 b 9223372036854775808 == 9218868437227405312) = false) (za : (Go.bits .andNot .u64 a 9223372036854775808 == 0) = true) (zb : (Go.bits .andNot .u64 b 9223372036854775808 == 0) = false) (o1 : moidoreref03_open.f a = some (s, 0, m, E1, false)) (o2 : moidoreref03_open.f b = some (t, 0, n, E2, false)) (h1 : E1 < E2) (h2 : E2 - E1 ≤ 64) (e1 : -2000 ≤ E1) (e2 : -2000 ≤ E2) (e3 : E1 ≤ 2000) (e4 : E2 ≤ 2000) (hl : moidoreref03_left.f 0 n (E2 - E1) = some (hi, lo)) (ne : (t == s) = false) (hge : (hi == 0) = false ∨ ((hi == 0) = true ∧ m ≤ lo)) (hx : bits_Sub64.f lo m 0 = some (lo2, c)) (hz : (IntKind.u64.wrap (hi - c) == 0) = true) (lz : (lo2 == 0) = true) :
    Calls Try.prog 26 #[.int .u64 a, .int .u64 b] w fun e w' => e = .returned (.int .u64 0) ∧ Qt w w' := by
  have N1 : Hid (moidoreref03_none.f a = some false) := Lib.hid (by unfold moidoreref03_none.f; rw [ha])
  have N2 : Hid (moidoreref03_none.f b = some false) := Lib.hid (by unfold moidoreref03_none.f; rw [hb])
  have O1 := Lib.hid o1
  have O2 := Lib.hid o2
  have HL := Lib.hid hl
  have hx := bits_Sub64.run _ _ _ _ _ hx
  clear ha hb o1 o2 hl
  rcases hge with hge | ⟨hge, hge2⟩
  all_goals
    go_enter Try.func26, Try.ntmps26
    go_wp2_with (first
      | (go_at_call 52; (with_reducible refine (moidoreref03_none.calls a false _ N1.out).mono ?_); rintro e w1 ⟨rfl, ⟨nd, rfl⟩⟩)
      | (go_at_call 52; (with_reducible refine (moidoreref03_none.calls b false _ N2.out).mono ?_); rintro e w1 ⟨rfl, ⟨nd, rfl⟩⟩)
      | (go_at_call 49; (with_reducible refine (moidoreref03_open.calls a _ _ _ _ _ _ O1.out).mono ?_); rintro e w1 ⟨rfl, q1⟩; have Q1 := Lib.hid q1; clear q1)
      | (go_at_call 49; (with_reducible refine (moidoreref03_open.calls b _ _ _ _ _ _ O2.out).mono ?_); rintro e w2 ⟨rfl, q2⟩; have Q2 := Lib.hid q2; clear q2)
      | (go_at_call 51; (with_reducible refine (moidoreref03_left.calls 0 n (E2 - E1) _ _ _ HL.out).mono ?_); rintro e w3 ⟨rfl, ⟨nd3, rfl⟩⟩))
    go_ret
    exact ⟨rfl, (qt_drewN (qt_alloc (qt_alloc (qt_alloc (Below.trans (Qt.trans (qt_drewN (Below.refl _ _) _) Q1.out) (Below.mono Q2.out (Below.size (Qt.trans (qt_drewN (Below.refl _ _) _) Q1.out)))) _) _) _) _)⟩
theorem add_sc_zero (a b : Int) (w : World) (s t : Bool) (m n E1 E2 hi lo lo2 c r : Int) (k : Nat) (ha : decide (Go.bits .andNot .u64 a 9223372036854775808 > 9218868437227405312) = false) (hb : decide (Go.bits .andNot .u64 b 9223372036854775808 > 9218868437227405312) = false) (ia : (Go.bits .andNot .u64 a 9223372036854775808 == 9218868437227405312) = false) (ib : (Go.bits .andNot .u64 b 9223372036854775808 == 9218868437227405312) = false) (zz : (Go.bits .andNot .u64 a 9223372036854775808 == 0) = false ∨ ((Go.bits .andNot .u64 a 9223372036854775808 == 0) = true ∧ (Go.bits .andNot .u64 b 9223372036854775808 == 0) = false)) (o1 : moidoreref03_open.f a = some (s, 0, m, E1, false)) (o2 : moidoreref03_open.f b = some (t, 0, n, E2, false)) (h1 : E1 < E2) (h2 : E2 - E1 ≤ 64) (e1 : -2000 ≤ E1) (e2 : -2000 ≤ E2) (e3 : E1 ≤ 2000) (e4 : E2 ≤ 2000) (hl : moidoreref03_left.f 0 n (E2 - E1) = some (hi, lo)) (ne : (t == s) = false) (hge : (hi == 0) = false ∨ ((hi == 0) = true ∧ m ≤ lo)) (hx : bits_Sub64.f lo m 0 = some (lo2, c)) (hz : (IntKind.u64.wrap (hi - c) == 0) = true) (lz : (lo2 == 0) = true) :
    Calls Try.prog 26 #[.int .u64 a, .int .u64 b] w fun e w' => e = .returned (.int .u64 0) ∧ Qt w w' := by
  rcases zz with za | ⟨za, zb⟩
  · exact add_sc_zeroa a b w s t m n E1 E2 hi lo lo2 c r k ha hb ia ib za o1 o2 h1 h2 e1 e2 e3 e4 hl ne hge hx hz lz
  · exact add_sc_zerob a b w s t m n E1 E2 hi lo lo2 c r k ha hb ia ib za zb o1 o2 h1 h2 e1 e2 e3 e4 hl ne hge hx hz lz

set_option maxRecDepth 100000 in
set_option maxHeartbeats 4000000 in
theorem add_sc_hib (a b : Int) (w : World) (s t : Bool) (m n E1 E2 hi lo lo2 c r : Int) (k : Nat) (ha : decide (Go.bits .andNot .u64 a 9223372036854775808 > 9218868437227405312) = false) (hb : decide (Go.bits .andNot .u64 b 9223372036854775808 > 9218868437227405312) = false) (ia : (Go.bits .andNot .u64 a 9223372036854775808 == 9218868437227405312) = false) (ib : (Go.bits .andNot .u64 b 9223372036854775808 == 9218868437227405312) = false) (za : (Go.bits .andNot .u64 a 9223372036854775808 == 0) = true) (zb : (Go.bits .andNot .u64 b 9223372036854775808 == 0) = false) (o1 : moidoreref03_open.f a = some (s, 0, m, E1, false)) (o2 : moidoreref03_open.f b = some (t, 0, n, E2, false)) (h1 : E1 < E2) (h2 : E2 - E1 ≤ 64) (e1 : -2000 ≤ E1) (e2 : -2000 ≤ E2) (e3 : E1 ≤ 2000) (e4 : E2 ≤ 2000) (hl : moidoreref03_left.f 0 n (E2 - E1) = some (hi, lo)) (ne : (t == s) = false) (hge : (hi == 0) = false ∨ ((hi == 0) = true ∧ m ≤ lo)) (hx : bits_Sub64.f lo m 0 = some (lo2, c)) (hz : (IntKind.u64.wrap (hi - c) == 0) = false) (hr : moidoreref03_rounded.f k t (IntKind.u64.wrap (hi - c)) lo2 E1 false = some r) :
    Calls Try.prog 26 #[.int .u64 a, .int .u64 b] w fun e w' => e = .returned (.int .u64 r) ∧ Qt w w' := by
  have N1 : Hid (moidoreref03_none.f a = some false) := Lib.hid (by unfold moidoreref03_none.f; rw [ha])
  have N2 : Hid (moidoreref03_none.f b = some false) := Lib.hid (by unfold moidoreref03_none.f; rw [hb])
  have O1 := Lib.hid o1
  have O2 := Lib.hid o2
  have HL := Lib.hid hl
  have HR := Lib.hid hr
  have hx := bits_Sub64.run _ _ _ _ _ hx
  clear ha hb o1 o2 hl hr
  rcases hge with hge | ⟨hge, hge2⟩
  all_goals
    go_enter Try.func26, Try.ntmps26
    go_wp2_with (first
      | (go_at_call 52; (with_reducible refine (moidoreref03_none.calls a false _ N1.out).mono ?_); rintro e w1 ⟨rfl, ⟨nd, rfl⟩⟩)
      | (go_at_call 52; (with_reducible refine (moidoreref03_none.calls b false _ N2.out).mono ?_); rintro e w1 ⟨rfl, ⟨nd, rfl⟩⟩)
      | (go_at_call 49; (with_reducible refine (moidoreref03_open.calls a _ _ _ _ _ _ O1.out).mono ?_); rintro e w1 ⟨rfl, q1⟩; have Q1 := Lib.hid q1; clear q1)
      | (go_at_call 49; (with_reducible refine (moidoreref03_open.calls b _ _ _ _ _ _ O2.out).mono ?_); rintro e w2 ⟨rfl, q2⟩; have Q2 := Lib.hid q2; clear q2)
      | (go_at_call 51; (with_reducible refine (moidoreref03_left.calls 0 n (E2 - E1) _ _ _ HL.out).mono ?_); rintro e w3 ⟨rfl, ⟨nd3, rfl⟩⟩)
      | (go_at_call 54; (with_reducible refine (moidoreref03_rounded.calls k t _ _ _ _ _ _ HR.out).mono ?_); rintro e w4 ⟨rfl, q4⟩; have Q4 := Lib.hid q4; clear q4))
    go_ret
    exact ⟨rfl, Qt.trans (qt_drewN (qt_alloc (qt_alloc (qt_alloc (Below.trans (Qt.trans (qt_drewN (Below.refl _ _) _) Q1.out) (Below.mono Q2.out (Below.size (Qt.trans (qt_drewN (Below.refl _ _) _) Q1.out)))) _) _) _) _) Q4.out⟩
theorem add_sc_hi (a b : Int) (w : World) (s t : Bool) (m n E1 E2 hi lo lo2 c r : Int) (k : Nat) (ha : decide (Go.bits .andNot .u64 a 9223372036854775808 > 9218868437227405312) = false) (hb : decide (Go.bits .andNot .u64 b 9223372036854775808 > 9218868437227405312) = false) (ia : (Go.bits .andNot .u64 a 9223372036854775808 == 9218868437227405312) = false) (ib : (Go.bits .andNot .u64 b 9223372036854775808 == 9218868437227405312) = false) (zz : (Go.bits .andNot .u64 a 9223372036854775808 == 0) = false ∨ ((Go.bits .andNot .u64 a 9223372036854775808 == 0) = true ∧ (Go.bits .andNot .u64 b 9223372036854775808 == 0) = false)) (o1 : moidoreref03_open.f a = some (s, 0, m, E1, false)) (o2 : moidoreref03_open.f b = some (t, 0, n, E2, false)) (h1 : E1 < E2) (h2 : E2 - E1 ≤ 64) (e1 : -2000 ≤ E1) (e2 : -2000 ≤ E2) (e3 : E1 ≤ 2000) (e4 : E2 ≤ 2000) (hl : moidoreref03_left.f 0 n (E2 - E1) = some (hi, lo)) (ne : (t == s) = false) (hge : (hi == 0) = false ∨ ((hi == 0) = true ∧ m ≤ lo)) (hx : bits_Sub64.f lo m 0 = some (lo2, c)) (hz : (IntKind.u64.wrap (hi - c) == 0) = false) (hr : moidoreref03_rounded.f k t (IntKind.u64.wrap (hi - c)) lo2 E1 false = some r) :
    Calls Try.prog 26 #[.int .u64 a, .int .u64 b] w fun e w' => e = .returned (.int .u64 r) ∧ Qt w w' := by
  rcases zz with za | ⟨za, zb⟩
  · exact add_sc_hia a b w s t m n E1 E2 hi lo lo2 c r k ha hb ia ib za o1 o2 h1 h2 e1 e2 e3 e4 hl ne hge hx hz hr
  · exact add_sc_hib a b w s t m n E1 E2 hi lo lo2 c r k ha hb ia ib za zb o1 o2 h1 h2 e1 e2 e3 e4 hl ne hge hx hz hr

set_option maxRecDepth 100000 in
set_option maxHeartbeats 4000000 in
theorem add_sc_lob (a b : Int) (w : World) (s t : Bool) (m n E1 E2 hi lo lo2 c r : Int) (k : Nat) (ha : decide (Go.bits .andNot .u64 a 9223372036854775808 > 9218868437227405312) = false) (hb : decide (Go.bits .andNot .u64 b 9223372036854775808 > 9218868437227405312) = false) (ia : (Go.bits .andNot .u64 a 9223372036854775808 == 9218868437227405312) = false) (ib : (Go.bits .andNot .u64 b 9223372036854775808 == 9218868437227405312) = false) (za : (Go.bits .andNot .u64 a 9223372036854775808 == 0) = true) (zb : (Go.bits .andNot .u64 b 9223372036854775808 == 0) = false) (o1 : moidoreref03_open.f a = some (s, 0, m, E1, false)) (o2 : moidoreref03_open.f b = some (t, 0, n, E2, false)) (h1 : E1 < E2) (h2 : E2 - E1 ≤ 64) (e1 : -2000 ≤ E1) (e2 : -2000 ≤ E2) (e3 : E1 ≤ 2000) (e4 : E2 ≤ 2000) (hl : moidoreref03_left.f 0 n (E2 - E1) = some (hi, lo)) (ne : (t == s) = false) (hge : (hi == 0) = false ∨ ((hi == 0) = true ∧ m ≤ lo)) (hx : bits_Sub64.f lo m 0 = some (lo2, c)) (hz : (IntKind.u64.wrap (hi - c) == 0) = true) (lz : (lo2 == 0) = false) (hr : moidoreref03_rounded.f k t (IntKind.u64.wrap (hi - c)) lo2 E1 false = some r) :
    Calls Try.prog 26 #[.int .u64 a, .int .u64 b] w fun e w' => e = .returned (.int .u64 r) ∧ Qt w w' := by
  have N1 : Hid (moidoreref03_none.f a = some false) := Lib.hid (by unfold moidoreref03_none.f; rw [ha])
  have N2 : Hid (moidoreref03_none.f b = some false) := Lib.hid (by unfold moidoreref03_none.f; rw [hb])
  have O1 := Lib.hid o1
  have O2 := Lib.hid o2
  have HL := Lib.hid hl
  have HR := Lib.hid hr
  have hx := bits_Sub64.run _ _ _ _ _ hx
  clear ha hb o1 o2 hl hr
  rcases hge with hge | ⟨hge, hge2⟩
  all_goals
    go_enter Try.func26, Try.ntmps26
    go_wp2_with (first
      | (go_at_call 52; (with_reducible refine (moidoreref03_none.calls a false _ N1.out).mono ?_); rintro e w1 ⟨rfl, ⟨nd, rfl⟩⟩)
      | (go_at_call 52; (with_reducible refine (moidoreref03_none.calls b false _ N2.out).mono ?_); rintro e w1 ⟨rfl, ⟨nd, rfl⟩⟩)
      | (go_at_call 49; (with_reducible refine (moidoreref03_open.calls a _ _ _ _ _ _ O1.out).mono ?_); rintro e w1 ⟨rfl, q1⟩; have Q1 := Lib.hid q1; clear q1)
      | (go_at_call 49; (with_reducible refine (moidoreref03_open.calls b _ _ _ _ _ _ O2.out).mono ?_); rintro e w2 ⟨rfl, q2⟩; have Q2 := Lib.hid q2; clear q2)
      | (go_at_call 51; (with_reducible refine (moidoreref03_left.calls 0 n (E2 - E1) _ _ _ HL.out).mono ?_); rintro e w3 ⟨rfl, ⟨nd3, rfl⟩⟩)
      | (go_at_call 54; (with_reducible refine (moidoreref03_rounded.calls k t _ _ _ _ _ _ HR.out).mono ?_); rintro e w4 ⟨rfl, q4⟩; have Q4 := Lib.hid q4; clear q4))
    go_ret
    exact ⟨rfl, Qt.trans (qt_drewN (qt_alloc (qt_alloc (qt_alloc (Below.trans (Qt.trans (qt_drewN (Below.refl _ _) _) Q1.out) (Below.mono Q2.out (Below.size (Qt.trans (qt_drewN (Below.refl _ _) _) Q1.out)))) _) _) _) _) Q4.out⟩
theorem add_sc_lo (a b : Int) (w : World) (s t : Bool) (m n E1 E2 hi lo lo2 c r : Int) (k : Nat) (ha : decide (Go.bits .andNot .u64 a 9223372036854775808 > 9218868437227405312) = false) (hb : decide (Go.bits .andNot .u64 b 9223372036854775808 > 9218868437227405312) = false) (ia : (Go.bits .andNot .u64 a 9223372036854775808 == 9218868437227405312) = false) (ib : (Go.bits .andNot .u64 b 9223372036854775808 == 9218868437227405312) = false) (zz : (Go.bits .andNot .u64 a 9223372036854775808 == 0) = false ∨ ((Go.bits .andNot .u64 a 9223372036854775808 == 0) = true ∧ (Go.bits .andNot .u64 b 9223372036854775808 == 0) = false)) (o1 : moidoreref03_open.f a = some (s, 0, m, E1, false)) (o2 : moidoreref03_open.f b = some (t, 0, n, E2, false)) (h1 : E1 < E2) (h2 : E2 - E1 ≤ 64) (e1 : -2000 ≤ E1) (e2 : -2000 ≤ E2) (e3 : E1 ≤ 2000) (e4 : E2 ≤ 2000) (hl : moidoreref03_left.f 0 n (E2 - E1) = some (hi, lo)) (ne : (t == s) = false) (hge : (hi == 0) = false ∨ ((hi == 0) = true ∧ m ≤ lo)) (hx : bits_Sub64.f lo m 0 = some (lo2, c)) (hz : (IntKind.u64.wrap (hi - c) == 0) = true) (lz : (lo2 == 0) = false) (hr : moidoreref03_rounded.f k t (IntKind.u64.wrap (hi - c)) lo2 E1 false = some r) :
    Calls Try.prog 26 #[.int .u64 a, .int .u64 b] w fun e w' => e = .returned (.int .u64 r) ∧ Qt w w' := by
  rcases zz with za | ⟨za, zb⟩
  · exact add_sc_loa a b w s t m n E1 E2 hi lo lo2 c r k ha hb ia ib za o1 o2 h1 h2 e1 e2 e3 e4 hl ne hge hx hz lz hr
  · exact add_sc_lob a b w s t m n E1 E2 hi lo lo2 c r k ha hb ia ib za zb o1 o2 h1 h2 e1 e2 e3 e4 hl ne hge hx hz lz hr

set_option maxRecDepth 100000 in
set_option maxHeartbeats 4000000 in
theorem add_sf_sameb (a b : Int) (w : World) (s : Bool) (m n E1 E2 hi lo lo2 c r : Int) (k : Nat) (z my : Int) (more : Bool) (ha : decide (Go.bits .andNot .u64 a 9223372036854775808 > 9218868437227405312) = false) (hb : decide (Go.bits .andNot .u64 b 9223372036854775808 > 9218868437227405312) = false) (ia : (Go.bits .andNot .u64 a 9223372036854775808 == 9218868437227405312) = false) (ib : (Go.bits .andNot .u64 b 9223372036854775808 == 9218868437227405312) = false) (za : (Go.bits .andNot .u64 a 9223372036854775808 == 0) = true) (zb : (Go.bits .andNot .u64 b 9223372036854775808 == 0) = false) (o1 : moidoreref03_open.f a = some (s, 0, m, E1, false)) (o2 : moidoreref03_open.f b = some (s, 0, n, E2, false)) (h1 : E1 < E2) (h2 : 64 < E2 - E1) (e1 : -2000 ≤ E1) (e2 : -2000 ≤ E2) (e3 : E1 ≤ 2000) (e4 : E2 ≤ 2000) (hri : moidoreref03_right.f 0 m (E2 - E1 - 64) = some (z, my, more)) (hl : moidoreref03_left.f 0 n 64 = some (hi, lo)) (hx : bits_Add64.f lo my 0 = some (lo2, c)) (hr : moidoreref03_rounded.f k s (IntKind.u64.wrap (hi + c)) lo2 (E2 - 64) more = some r) :
    Calls Try.prog 26 #[.int .u64 a, .int .u64 b] w fun e w' => e = .returned (.int .u64 r) ∧ Qt w w' := by
  have N1 : Hid (moidoreref03_none.f a = some false) := Lib.hid (by unfold moidoreref03_none.f; rw [ha])
  have N2 : Hid (moidoreref03_none.f b = some false) := Lib.hid (by unfold moidoreref03_none.f; rw [hb])
  have O1 := Lib.hid o1
  have O2 := Lib.hid o2
  have HL := Lib.hid hl
  have HI := Lib.hid hri
  have HR := Lib.hid hr
  have hx := bits_Add64.run _ _ _ _ _ hx
  clear ha hb o1 o2 hl hri hr
  go_enter Try.func26, Try.ntmps26
  go_wp2_with (first
    | (go_at_call 52; (with_reducible refine (moidoreref03_none.calls a false _ N1.out).mono ?_); rintro e w1 ⟨rfl, ⟨nd, rfl⟩⟩)
    | (go_at_call 52; (with_reducible refine (moidoreref03_none.calls b false _ N2.out).mono ?_); rintro e w1 ⟨rfl, ⟨nd, rfl⟩⟩)
    | (go_at_call 49; (with_reducible refine (moidoreref03_open.calls a _ _ _ _ _ _ O1.out).mono ?_); rintro e w1 ⟨rfl, q1⟩; have Q1 := Lib.hid q1; clear q1)
    | (go_at_call 49; (with_reducible refine (moidoreref03_open.calls b _ _ _ _ _ _ O2.out).mono ?_); rintro e w2 ⟨rfl, q2⟩; have Q2 := Lib.hid q2; clear q2)
    | (go_at_call 50; (with_reducible refine (moidoreref03_right.calls 0 m (E2 - E1 - 64) _ _ _ _ HI.out).mono ?_); rintro e w3 ⟨rfl, ⟨nd3, rfl⟩⟩)
    | (go_at_call 51; (with_reducible refine (moidoreref03_left.calls 0 n 64 _ _ _ HL.out).mono ?_); rintro e w3 ⟨rfl, ⟨nd3, rfl⟩⟩)
    | (go_at_call 54; (with_reducible refine (moidoreref03_rounded.calls k s _ _ _ _ _ _ HR.out).mono ?_); rintro e w4 ⟨rfl, q4⟩; have Q4 := Lib.hid q4; clear q4))
  go_ret
  exact ⟨rfl, Qt.trans (qt_drewN (qt_alloc (qt_alloc (qt_alloc (Below.trans (Qt.trans (qt_drewN (Below.refl _ _) _) Q1.out) (Below.mono Q2.out (Below.size (Qt.trans (qt_drewN (Below.refl _ _) _) Q1.out)))) _) _) _) _) Q4.out⟩
theorem add_sf_same (a b : Int) (w : World) (s : Bool) (m n E1 E2 hi lo lo2 c r : Int) (k : Nat) (z my : Int) (more : Bool) (ha : decide (Go.bits .andNot .u64 a 9223372036854775808 > 9218868437227405312) = false) (hb : decide (Go.bits .andNot .u64 b 9223372036854775808 > 9218868437227405312) = false) (ia : (Go.bits .andNot .u64 a 9223372036854775808 == 9218868437227405312) = false) (ib : (Go.bits .andNot .u64 b 9223372036854775808 == 9218868437227405312) = false) (zz : (Go.bits .andNot .u64 a 9223372036854775808 == 0) = false ∨ ((Go.bits .andNot .u64 a 9223372036854775808 == 0) = true ∧ (Go.bits .andNot .u64 b 9223372036854775808 == 0) = false)) (o1 : moidoreref03_open.f a = some (s, 0, m, E1, false)) (o2 : moidoreref03_open.f b = some (s, 0, n, E2, false)) (h1 : E1 < E2) (h2 : 64 < E2 - E1) (e1 : -2000 ≤ E1) (e2 : -2000 ≤ E2) (e3 : E1 ≤ 2000) (e4 : E2 ≤ 2000) (hri : moidoreref03_right.f 0 m (E2 - E1 - 64) = some (z, my, more)) (hl : moidoreref03_left.f 0 n 64 = some (hi, lo)) (hx : bits_Add64.f lo my 0 = some (lo2, c)) (hr : moidoreref03_rounded.f k s (IntKind.u64.wrap (hi + c)) lo2 (E2 - 64) more = some r) :
    Calls Try.prog 26 #[.int .u64 a, .int .u64 b] w fun e w' => e = .returned (.int .u64 r) ∧ Qt w w' := by
  rcases zz with za | ⟨za, zb⟩
  · exact add_sf_samea a b w s m n E1 E2 hi lo lo2 c r k z my more ha hb ia ib za o1 o2 h1 h2 e1 e2 e3 e4 hri hl hx hr
  · exact add_sf_sameb a b w s m n E1 E2 hi lo lo2 c r k z my more ha hb ia ib za zb o1 o2 h1 h2 e1 e2 e3 e4 hri hl hx hr

set_option maxRecDepth 100000 in
set_option maxHeartbeats 4000000 in
theorem add_sf_hib (a b : Int) (w : World) (s t : Bool) (m n E1 E2 hi lo lo2 c r : Int) (k : Nat) (z my : Int) (ha : decide (Go.bits .andNot .u64 a 9223372036854775808 > 9218868437227405312) = false) (hb : decide (Go.bits .andNot .u64 b 9223372036854775808 > 9218868437227405312) = false) (ia : (Go.bits .andNot .u64 a 9223372036854775808 == 9218868437227405312) = false) (ib : (Go.bits .andNot .u64 b 9223372036854775808 == 9218868437227405312) = false) (za : (Go.bits .andNot .u64 a 9223372036854775808 == 0) = true) (zb : (Go.bits .andNot .u64 b 9223372036854775808 == 0) = false) (o1 : moidoreref03_open.f a = some (s, 0, m, E1, false)) (o2 : moidoreref03_open.f b = some (t, 0, n, E2, false)) (h1 : E1 < E2) (h2 : 64 < E2 - E1) (e1 : -2000 ≤ E1) (e2 : -2000 ≤ E2) (e3 : E1 ≤ 2000) (e4 : E2 ≤ 2000) (hri : moidoreref03_right.f 0 m (E2 - E1 - 64) = some (z, my, false)) (hl : moidoreref03_left.f 0 n 64 = some (hi, lo)) (ne : (t == s) = false) (hge : (hi == 0) = false ∨ ((hi == 0) = true ∧ my ≤ lo)) (hx : bits_Sub64.f lo my 0 = some (lo2, c)) (hz : (IntKind.u64.wrap (hi - c) == 0) = false) (hr : moidoreref03_rounded.f k t (IntKind.u64.wrap (hi - c)) lo2 (E2 - 64) false = some r) :
    Calls Try.prog 26 #[.int .u64 a, .int .u64 b] w fun e w' => e = .returned (.int .u64 r) ∧ Qt w w' := by
  have N1 : Hid (moidoreref03_none.f a = some false) := Lib.hid (by unfold moidoreref03_none.f; rw [ha])
  have N2 : Hid (moidoreref03_none.f b = some false) := Lib.hid (by unfold moidoreref03_none.f; rw [hb])
  have O1 := Lib.hid o1
  have O2 := Lib.hid o2
  have HL := Lib.hid hl
  have HI := Lib.hid hri
  have HR := Lib.hid hr
  have hx := bits_Sub64.run _ _ _ _ _ hx
  clear ha hb o1 o2 hl hri hr
  rcases hge with hge | ⟨hge, hge2⟩
  all_goals
    go_enter Try.func26, Try.ntmps26
    go_wp2_with (first
      | (go_at_call 52; (with_reducible refine (moidoreref03_none.calls a false _ N1.out).mono ?_); rintro e w1 ⟨rfl, ⟨nd, rfl⟩⟩)
      | (go_at_call 52; (with_reducible refine (moidoreref03_none.calls b false _ N2.out).mono ?_); rintro e w1 ⟨rfl, ⟨nd, rfl⟩⟩)
      | (go_at_call 49; (with_reducible refine (moidoreref03_open.calls a _ _ _ _ _ _ O1.out).mono ?_); rintro e w1 ⟨rfl, q1⟩; have Q1 := Lib.hid q1; clear q1)
      | (go_at_call 49; (with_reducible refine (moidoreref03_open.calls b _ _ _ _ _ _ O2.out).mono ?_); rintro e w2 ⟨rfl, q2⟩; have Q2 := Lib.hid q2; clear q2)
      | (go_at_call 50; (with_reducible refine (moidoreref03_right.calls 0 m (E2 - E1 - 64) _ _ _ _ HI.out).mono ?_); rintro e w3 ⟨rfl, ⟨nd3, rfl⟩⟩)
      | (go_at_call 51; (with_reducible refine (moidoreref03_left.calls 0 n 64 _ _ _ HL.out).mono ?_); rintro e w3 ⟨rfl, ⟨nd3, rfl⟩⟩)
      | (go_at_call 54; (with_reducible refine (moidoreref03_rounded.calls k t _ _ _ _ _ _ HR.out).mono ?_); rintro e w4 ⟨rfl, q4⟩; have Q4 := Lib.hid q4; clear q4))
    go_ret
    exact ⟨rfl, Qt.trans (qt_drewN (qt_alloc (qt_alloc (qt_alloc (Below.trans (Qt.trans (qt_drewN (Below.refl _ _) _) Q1.out) (Below.mono Q2.out (Below.size (Qt.trans (qt_drewN (Below.refl _ _) _) Q1.out)))) _) _) _) _) Q4.out⟩
theorem add_sf_hi (a b : Int) (w : World) (s t : Bool) (m n E1 E2 hi lo lo2 c r : Int) (k : Nat) (z my : Int) (ha : decide (Go.bits .andNot .u64 a 9223372036854775808 > 9218868437227405312) = false) (hb : decide (Go.bits .andNot .u64 b 9223372036854775808 > 9218868437227405312) = false) (ia : (Go.bits .andNot .u64 a 9223372036854775808 == 9218868437227405312) = false) (ib : (Go.bits .andNot .u64 b 9223372036854775808 == 9218868437227405312) = false) (zz : (Go.bits .andNot .u64 a 9223372036854775808 == 0) = false ∨ ((Go.bits .andNot .u64 a 9223372036854775808 == 0) = true ∧ (Go.bits .andNot .u64 b 9223372036854775808 == 0) = false)) (o1 : moidoreref03_open.f a = some (s, 0, m, E1, false)) (o2 : moidoreref03_open.f b = some (t, 0, n, E2, false)) (h1 : E1 < E2) (h2 : 64 < E2 - E1) (e1 : -2000 ≤ E1) (e2 : -2000 ≤ E2) (e3 : E1 ≤ 2000) (e4 : E2 ≤ 2000) (hri : moidoreref03_right.f 0 m (E2 - E1 - 64) = some (z, my, false)) (hl : moidoreref03_left.f 0 n 64 = some (hi, lo)) (ne : (t == s) = false) (hge : (hi == 0) = false ∨ ((hi == 0) = true ∧ my ≤ lo)) (hx : bits_Sub64.f lo my 0 = some (lo2, c)) (hz : (IntKind.u64.wrap (hi - c) == 0) = false) (hr : moidoreref03_rounded.f k t (IntKind.u64.wrap (hi - c)) lo2 (E2 - 64) false = some r) :
    Calls Try.prog 26 #[.int .u64 a, .int .u64 b] w fun e w' => e = .returned (.int .u64 r) ∧ Qt w w' := by
  rcases zz with za | ⟨za, zb⟩
  · exact add_sf_hia a b w s t m n E1 E2 hi lo lo2 c r k z my ha hb ia ib za o1 o2 h1 h2 e1 e2 e3 e4 hri hl ne hge hx hz hr
  · exact add_sf_hib a b w s t m n E1 E2 hi lo lo2 c r k z my ha hb ia ib za zb o1 o2 h1 h2 e1 e2 e3 e4 hri hl ne hge hx hz hr

set_option maxRecDepth 100000 in
set_option maxHeartbeats 4000000 in
theorem add_sf_moreb (a b : Int) (w : World) (s t : Bool) (m n E1 E2 hi lo lo2 c r : Int) (k : Nat) (z my : Int) (lo3 c3 : Int) (ha : decide (Go.bits .andNot .u64 a 9223372036854775808 > 9218868437227405312) = false) (hb : decide (Go.bits .andNot .u64 b 9223372036854775808 > 9218868437227405312) = false) (ia : (Go.bits .andNot .u64 a 9223372036854775808 == 9218868437227405312) = false) (ib : (Go.bits .andNot .u64 b 9223372036854775808 == 9218868437227405312) = false) (za : (Go.bits .andNot .u64 a 9223372036854775808 == 0) = true) (zb : (Go.bits .andNot .u64 b 9223372036854775808 == 0) = false) (o1 : moidoreref03_open.f a = some (s, 0, m, E1, false)) (o2 : moidoreref03_open.f b = some (t, 0, n, E2, false)) (h1 : E1 < E2) (h2 : 64 < E2 - E1) (e1 : -2000 ≤ E1) (e2 : -2000 ≤ E2) (e3 : E1 ≤ 2000) (e4 : E2 ≤ 2000) (hri : moidoreref03_right.f 0 m (E2 - E1 - 64) = some (z, my, true)) (hl : moidoreref03_left.f 0 n 64 = some (hi, lo)) (ne : (t == s) = false) (hge : (hi == 0) = false ∨ ((hi == 0) = true ∧ my ≤ lo)) (hx : bits_Sub64.f lo my 0 = some (lo2, c)) (hx3 : bits_Sub64.f lo2 1 0 = some (lo3, c3)) (hnz : (IntKind.u64.wrap (IntKind.u64.wrap (hi - c) - c3) == 0) = false) (hr : moidoreref03_rounded.f k t (IntKind.u64.wrap (IntKind.u64.wrap (hi - c) - c3)) lo3 (E2 - 64) true = some r) :
    Calls Try.prog 26 #[.int .u64 a, .int .u64 b] w fun e w' => e = .returned (.int .u64 r) ∧ Qt w w' := by
  have N1 : Hid (moidoreref03_none.f a = some false) := Lib.hid (by unfold moidoreref03_none.f; rw [ha])
  have N2 : Hid (moidoreref03_none.f b = some false) := Lib.hid (by unfold moidoreref03_none.f; rw [hb])
  have O1 := Lib.hid o1
  have O2 := Lib.hid o2
  have HL := Lib.hid hl
  have HI := Lib.hid hri
  have HR := Lib.hid hr
  have hx := bits_Sub64.run _ _ _ _ _ hx
  have hx3 := bits_Sub64.run _ _ _ _ _ hx3
  clear ha hb o1 o2 hl hri hr
  rcases hge with hge | ⟨hge, hge2⟩
  all_goals
    go_enter Try.func26, Try.ntmps26
    go_wp2_with (first
      | (go_at_call 52; (with_reducible refine (moidoreref03_none.calls a false _ N1.out).mono ?_); rintro e w1 ⟨rfl, ⟨nd, rfl⟩⟩)
      | (go_at_call 52; (with_reducible refine (moidoreref03_none.calls b false _ N2.out).mono ?_); rintro e w1 ⟨rfl, ⟨nd, rfl⟩⟩)
      | (go_at_call 49; (with_reducible refine (moidoreref03_open.calls a _ _ _ _ _ _ O1.out).mono ?_); rintro e w1 ⟨rfl, q1⟩; have Q1 := Lib.hid q1; clear q1)
      | (go_at_call 49; (with_reducible refine (moidoreref03_open.calls b _ _ _ _ _ _ O2.out).mono ?_); rintro e w2 ⟨rfl, q2⟩; have Q2 := Lib.hid q2; clear q2)
      | (go_at_call 50; (with_reducible refine (moidoreref03_right.calls 0 m (E2 - E1 - 64) _ _ _ _ HI.out).mono ?_); rintro e w3 ⟨rfl, ⟨nd3, rfl⟩⟩)
      | (go_at_call 51; (with_reducible refine (moidoreref03_left.calls 0 n 64 _ _ _ HL.out).mono ?_); rintro e w3 ⟨rfl, ⟨nd3, rfl⟩⟩)
      | (go_at_call 54; (with_reducible refine (moidoreref03_rounded.calls k t _ _ _ _ _ _ HR.out).mono ?_); rintro e w4 ⟨rfl, q4⟩; have Q4 := Lib.hid q4; clear q4))
    go_ret
    exact ⟨rfl, Qt.trans (qt_drewN (qt_alloc (qt_alloc (qt_alloc (Below.trans (Qt.trans (qt_drewN (Below.refl _ _) _) Q1.out) (Below.mono Q2.out (Below.size (Qt.trans (qt_drewN (Below.refl _ _) _) Q1.out)))) _) _) _) _) Q4.out⟩
theorem add_sf_more (a b : Int) (w : World) (s t : Bool) (m n E1 E2 hi lo lo2 c r : Int) (k : Nat) (z my : Int) (lo3 c3 : Int) (ha : decide (Go.bits .andNot .u64 a 9223372036854775808 > 9218868437227405312) = false) (hb : decide (Go.bits .andNot .u64 b 9223372036854775808 > 9218868437227405312) = false) (ia : (Go.bits .andNot .u64 a 9223372036854775808 == 9218868437227405312) = false) (ib : (Go.bits .andNot .u64 b 9223372036854775808 == 9218868437227405312) = false) (zz : (Go.bits .andNot .u64 a 9223372036854775808 == 0) = false ∨ ((Go.bits .andNot .u64 a 9223372036854775808 == 0) = true ∧ (Go.bits .andNot .u64 b 9223372036854775808 == 0) = false)) (o1 : moidoreref03_open.f a = some (s, 0, m, E1, false)) (o2 : moidoreref03_open.f b = some (t, 0, n, E2, false)) (h1 : E1 < E2) (h2 : 64 < E2 - E1) (e1 : -2000 ≤ E1) (e2 : -2000 ≤ E2) (e3 : E1 ≤ 2000) (e4 : E2 ≤ 2000) (hri : moidoreref03_right.f 0 m (E2 - E1 - 64) = some (z, my, true)) (hl : moidoreref03_left.f 0 n 64 = some (hi, lo)) (ne : (t == s) = false) (hge : (hi == 0) = false ∨ ((hi == 0) = true ∧ my ≤ lo)) (hx : bits_Sub64.f lo my 0 = some (lo2, c)) (hx3 : bits_Sub64.f lo2 1 0 = some (lo3, c3)) (hnz : (IntKind.u64.wrap (IntKind.u64.wrap (hi - c) - c3) == 0) = false) (hr : moidoreref03_rounded.f k t (IntKind.u64.wrap (IntKind.u64.wrap (hi - c) - c3)) lo3 (E2 - 64) true = some r) :
    Calls Try.prog 26 #[.int .u64 a, .int .u64 b] w fun e w' => e = .returned (.int .u64 r) ∧ Qt w w' := by
  rcases zz with za | ⟨za, zb⟩
  · exact add_sf_morea a b w s t m n E1 E2 hi lo lo2 c r k z my lo3 c3 ha hb ia ib za o1 o2 h1 h2 e1 e2 e3 e4 hri hl ne hge hx hx3 hnz hr
  · exact add_sf_moreb a b w s t m n E1 E2 hi lo lo2 c r k z my lo3 c3 ha hb ia ib za zb o1 o2 h1 h2 e1 e2 e3 e4 hri hl ne hge hx hx3 hnz hr
end Go.Proofs.Ytcobpbhmpolceaa.Pure
