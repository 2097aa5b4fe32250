-- printed by pw.py, a program of this session over the print, some functions told from outside
import Derived.Test.YtcobpbhmpolceaaPE0
import Derived.Test.YtcobpbhmpolceaaPE1
import Derived.Test.YtcobpbhmpolceaaPE2
import Derived.Test.YtcobpbhmpolceaaPE3
namespace Go.Proofs.Ytcobpbhmpolceaa.PE
open Go.Proofs.Ytcobpbhmpolceaa.Ext
open Go.RowKit Go.Proofs.YtcobpbhmpolceaaW.PrintWords Go.Proofs.YtcobpbhmpolceaaW.PrintLast Go.Proofs.YtcobpbhmpolceaaW.PrintMore
attribute [local go_sem] max2_int min2_int max_two min_two max_three min_three max_four min_four   -- for this text's walks alone
set_option linter.unusedVariables false
set_option linter.unusedSimpArgs false

/-! ### moidoreref03_Less: function 31 -/
def moidoreref03_Less.f (a0 : Int) (a1 : Int) : Option (Bool) := (moidoreref03_none.f a0).bind fun t200 => (if t200 = true then (some false) else ((moidoreref03_none.f a1).bind fun t201 => (if t201 = true then (some false) else ((moidoreref03_place.f a0).bind fun t202 => ((moidoreref03_place.f a1).bind fun t203 => (if t202 < t203 then (some ((Go.bits .andNot .u64 (Go.bits .or .u64 a0 a1) 9223372036854775808) != 0)) else (some false)))))))
set_option maxHeartbeats 8000000 in
set_option maxRecDepth 100000 in
theorem moidoreref03_Less.calls (a0 : Int) (a1 : Int) (r : Bool) (w : World) (h : moidoreref03_Less.f a0 a1 = some r) :
    Calls Try.prog 31 #[.int .u64 a0, .int .u64 a1] w fun e w' => e = .returned (.bool r) ∧ Drawn0 w w' := by
  have H : ((moidoreref03_none.f a0).bind fun t200 => (if t200 = true then (some false) else ((moidoreref03_none.f a1).bind fun t201 => (if t201 = true then (some false) else ((moidoreref03_place.f a0).bind fun t202 => ((moidoreref03_place.f a1).bind fun t203 => (if t202 < t203 then (some ((Go.bits .andNot .u64 (Go.bits .or .u64 a0 a1) 9223372036854775808) != 0)) else (some false)))))))) = some r := h
  clear h
  replace H := Option.bind_eq_some_iff.mp H
  obtain ⟨t200, A30, H⟩ := H
  replace H : (if t200 = true then (some false) else ((moidoreref03_none.f a1).bind fun t201 => (if t201 = true then (some false) else ((moidoreref03_place.f a0).bind fun t202 => ((moidoreref03_place.f a1).bind fun t203 => (if t202 < t203 then (some ((Go.bits .andNot .u64 (Go.bits .or .u64 a0 a1) 9223372036854775808) != 0)) else (some false))))))) = some r := H
  have A3 := Aside0.mk A30
  clear A30
  by_cases c4 : t200 = true
  · subst c4
    have H1 : (some false) = some r := by rw [if_pos rfl] at H; exact H
    clear H
    have H := H1
    clear H1
    obtain rfl := Option.some.inj H
    go_enter Try.func31, Try.ntmps31
    go_wp2_with (first | ((with_reducible refine gate_callee (f := 52) rfl ?_); refine goesL_ (some 6) rfl rfl Try.func52 (by kernel_rfl) rfl #[.int .u64 a0] rfl (by (try simp only [List.map_toArray, List.map_cons, List.map_nil]); first | done | rfl | (simp only [List.length_drop, List.length_take]; rfl)) ?_; (with_reducible refine (moidoreref03_none.calls a0 true _ A3.out).mono ?_); rintro e w' ⟨rfl, ⟨nd, rfl⟩⟩; refine ⟨_, rfl, ?_⟩))
    go_ret
    exact ⟨by first | rfl | (simp; done) | (simp [*]; done), by repeat (first | exact Drawn0.refl _ | apply Drawn0.step)⟩
  · replace c4 := Bool.eq_false_iff.mpr c4
    subst c4
    have H1 : ((moidoreref03_none.f a1).bind fun t201 => (if t201 = true then (some false) else ((moidoreref03_place.f a0).bind fun t202 => ((moidoreref03_place.f a1).bind fun t203 => (if t202 < t203 then (some ((Go.bits .andNot .u64 (Go.bits .or .u64 a0 a1) 9223372036854775808) != 0)) else (some false)))))) = some r := by rw [if_neg (show ¬ (false = true) by decide)] at H; exact H
    clear H
    have H := H1
    clear H1
    replace H := Option.bind_eq_some_iff.mp H
    obtain ⟨t201, A50, H⟩ := H
    replace H : (if t201 = true then (some false) else ((moidoreref03_place.f a0).bind fun t202 => ((moidoreref03_place.f a1).bind fun t203 => (if t202 < t203 then (some ((Go.bits .andNot .u64 (Go.bits .or .u64 a0 a1) 9223372036854775808) != 0)) else (some false))))) = some r := H
    have A5 := Aside0.mk A50
    clear A50
    by_cases c6 : t201 = true
    · subst c6
      have H1 : (some false) = some r := by rw [if_pos rfl] at H; exact H
      clear H
      have H := H1
      clear H1
      obtain rfl := Option.some.inj H
      go_enter Try.func31, Try.ntmps31
      go_wp2_with (first | ((with_reducible refine gate_callee (f := 52) rfl ?_); refine goesL_ (some 6) rfl rfl Try.func52 (by kernel_rfl) rfl #[.int .u64 a0] rfl (by (try simp only [List.map_toArray, List.map_cons, List.map_nil]); first | done | rfl | (simp only [List.length_drop, List.length_take]; rfl)) ?_; (with_reducible refine (moidoreref03_none.calls a0 false _ A3.out).mono ?_); rintro e w' ⟨rfl, ⟨nd, rfl⟩⟩; refine ⟨_, rfl, ?_⟩) | (go_at_call 52; (with_reducible refine (moidoreref03_none.calls a1 true _ A5.out).mono ?_); rintro e w' ⟨rfl, ⟨nd, rfl⟩⟩))
      go_ret
      exact ⟨by first | rfl | (simp; done) | (simp [*]; done), by repeat (first | exact Drawn0.refl _ | apply Drawn0.step)⟩
    · replace c6 := Bool.eq_false_iff.mpr c6
      subst c6
      have H1 : ((moidoreref03_place.f a0).bind fun t202 => ((moidoreref03_place.f a1).bind fun t203 => (if t202 < t203 then (some ((Go.bits .andNot .u64 (Go.bits .or .u64 a0 a1) 9223372036854775808) != 0)) else (some false)))) = some r := by rw [if_neg (show ¬ (false = true) by decide)] at H; exact H
      clear H
      have H := H1
      clear H1
      replace H := Option.bind_eq_some_iff.mp H
      obtain ⟨t202, A70, H⟩ := H
      replace H : ((moidoreref03_place.f a1).bind fun t203 => (if t202 < t203 then (some ((Go.bits .andNot .u64 (Go.bits .or .u64 a0 a1) 9223372036854775808) != 0)) else (some false))) = some r := H
      have A7 := Aside0.mk A70
      clear A70
      replace H := Option.bind_eq_some_iff.mp H
      obtain ⟨t203, A80, H⟩ := H
      replace H : (if t202 < t203 then (some ((Go.bits .andNot .u64 (Go.bits .or .u64 a0 a1) 9223372036854775808) != 0)) else (some false)) = some r := H
      have A8 := Aside0.mk A80
      clear A80
      by_cases c9 : t202 < t203
      · rw [if_pos c9] at H
        have c9b0 : decide (t202 < t203) = true := decide_eq_true c9
        clear c9
        obtain rfl := Option.some.inj H
        go_enter Try.func31, Try.ntmps31
        go_wp2_with (first | ((with_reducible refine gate_callee (f := 52) rfl ?_); refine goesL_ (some 6) rfl rfl Try.func52 (by kernel_rfl) rfl #[.int .u64 a0] rfl (by (try simp only [List.map_toArray, List.map_cons, List.map_nil]); first | done | rfl | (simp only [List.length_drop, List.length_take]; rfl)) ?_; (with_reducible refine (moidoreref03_none.calls a0 false _ A3.out).mono ?_); rintro e w' ⟨rfl, ⟨nd, rfl⟩⟩; refine ⟨_, rfl, ?_⟩) | (go_at_call 52; (with_reducible refine (moidoreref03_none.calls a1 false _ A5.out).mono ?_); rintro e w' ⟨rfl, ⟨nd, rfl⟩⟩) | (go_at_call 61; (with_reducible refine (moidoreref03_place.calls a0 t202 _ A7.out).mono ?_); rintro e w' ⟨rfl, ⟨nd, rfl⟩⟩) | (go_at_call 61; (with_reducible refine (moidoreref03_place.calls a1 t203 _ A8.out).mono ?_); rintro e w' ⟨rfl, ⟨nd, rfl⟩⟩))
        go_ret
        exact ⟨by first | rfl | (simp; done) | (simp [*]; done), by repeat (first | exact Drawn0.refl _ | apply Drawn0.step)⟩
      · rw [if_neg c9] at H
        have c9b0 : decide (t202 < t203) = false := decide_eq_false c9
        clear c9
        obtain rfl := Option.some.inj H
        go_enter Try.func31, Try.ntmps31
        go_wp2_with (first | ((with_reducible refine gate_callee (f := 52) rfl ?_); refine goesL_ (some 6) rfl rfl Try.func52 (by kernel_rfl) rfl #[.int .u64 a0] rfl (by (try simp only [List.map_toArray, List.map_cons, List.map_nil]); first | done | rfl | (simp only [List.length_drop, List.length_take]; rfl)) ?_; (with_reducible refine (moidoreref03_none.calls a0 false _ A3.out).mono ?_); rintro e w' ⟨rfl, ⟨nd, rfl⟩⟩; refine ⟨_, rfl, ?_⟩) | (go_at_call 52; (with_reducible refine (moidoreref03_none.calls a1 false _ A5.out).mono ?_); rintro e w' ⟨rfl, ⟨nd, rfl⟩⟩) | (go_at_call 61; (with_reducible refine (moidoreref03_place.calls a0 t202 _ A7.out).mono ?_); rintro e w' ⟨rfl, ⟨nd, rfl⟩⟩) | (go_at_call 61; (with_reducible refine (moidoreref03_place.calls a1 t203 _ A8.out).mono ?_); rintro e w' ⟨rfl, ⟨nd, rfl⟩⟩))
        go_ret
        exact ⟨by first | rfl | (simp; done) | (simp [*]; done), by repeat (first | exact Drawn0.refl _ | apply Drawn0.step)⟩

/-! ### moidoreref03_Same: function 32 -/
def moidoreref03_Same.f (a0 : Int) (a1 : Int) : Option (Bool) := (moidoreref03_none.f a0).bind fun t204 => (if t204 = true then (some false) else ((moidoreref03_none.f a1).bind fun t205 => (if t205 = true then (some false) else (if a0 = a1 then (some true) else (some ((Go.bits .andNot .u64 (Go.bits .or .u64 a0 a1) 9223372036854775808) == 0))))))
set_option maxHeartbeats 8000000 in
set_option maxRecDepth 100000 in
theorem moidoreref03_Same.calls (a0 : Int) (a1 : Int) (r : Bool) (w : World) (h : moidoreref03_Same.f a0 a1 = some r) :
    Calls Try.prog 32 #[.int .u64 a0, .int .u64 a1] w fun e w' => e = .returned (.bool r) ∧ Drawn0 w w' := by
  have H : ((moidoreref03_none.f a0).bind fun t204 => (if t204 = true then (some false) else ((moidoreref03_none.f a1).bind fun t205 => (if t205 = true then (some false) else (if a0 = a1 then (some true) else (some ((Go.bits .andNot .u64 (Go.bits .or .u64 a0 a1) 9223372036854775808) == 0))))))) = some r := h
  clear h
  replace H := Option.bind_eq_some_iff.mp H
  obtain ⟨t204, A30, H⟩ := H
  replace H : (if t204 = true then (some false) else ((moidoreref03_none.f a1).bind fun t205 => (if t205 = true then (some false) else (if a0 = a1 then (some true) else (some ((Go.bits .andNot .u64 (Go.bits .or .u64 a0 a1) 9223372036854775808) == 0)))))) = some r := H
  have A3 := Aside0.mk A30
  clear A30
  by_cases c4 : t204 = true
  · subst c4
    have H1 : (some false) = some r := by rw [if_pos rfl] at H; exact H
    clear H
    have H := H1
    clear H1
    obtain rfl := Option.some.inj H
    go_enter Try.func32, Try.ntmps32
    go_wp2_with (first | ((with_reducible refine gate_callee (f := 52) rfl ?_); refine goesL_ (some 6) rfl rfl Try.func52 (by kernel_rfl) rfl #[.int .u64 a0] rfl (by (try simp only [List.map_toArray, List.map_cons, List.map_nil]); first | done | rfl | (simp only [List.length_drop, List.length_take]; rfl)) ?_; (with_reducible refine (moidoreref03_none.calls a0 true _ A3.out).mono ?_); rintro e w' ⟨rfl, ⟨nd, rfl⟩⟩; refine ⟨_, rfl, ?_⟩))
    go_ret
    exact ⟨by first | rfl | (simp; done) | (simp [*]; done), by repeat (first | exact Drawn0.refl _ | apply Drawn0.step)⟩
  · replace c4 := Bool.eq_false_iff.mpr c4
    subst c4
    have H1 : ((moidoreref03_none.f a1).bind fun t205 => (if t205 = true then (some false) else (if a0 = a1 then (some true) else (some ((Go.bits .andNot .u64 (Go.bits .or .u64 a0 a1) 9223372036854775808) == 0))))) = some r := by rw [if_neg (show ¬ (false = true) by decide)] at H; exact H
    clear H
    have H := H1
    clear H1
    replace H := Option.bind_eq_some_iff.mp H
    obtain ⟨t205, A50, H⟩ := H
    replace H : (if t205 = true then (some false) else (if a0 = a1 then (some true) else (some ((Go.bits .andNot .u64 (Go.bits .or .u64 a0 a1) 9223372036854775808) == 0)))) = some r := H
    have A5 := Aside0.mk A50
    clear A50
    by_cases c6 : t205 = true
    · subst c6
      have H1 : (some false) = some r := by rw [if_pos rfl] at H; exact H
      clear H
      have H := H1
      clear H1
      obtain rfl := Option.some.inj H
      go_enter Try.func32, Try.ntmps32
      go_wp2_with (first | ((with_reducible refine gate_callee (f := 52) rfl ?_); refine goesL_ (some 6) rfl rfl Try.func52 (by kernel_rfl) rfl #[.int .u64 a0] rfl (by (try simp only [List.map_toArray, List.map_cons, List.map_nil]); first | done | rfl | (simp only [List.length_drop, List.length_take]; rfl)) ?_; (with_reducible refine (moidoreref03_none.calls a0 false _ A3.out).mono ?_); rintro e w' ⟨rfl, ⟨nd, rfl⟩⟩; refine ⟨_, rfl, ?_⟩) | (go_at_call 52; (with_reducible refine (moidoreref03_none.calls a1 true _ A5.out).mono ?_); rintro e w' ⟨rfl, ⟨nd, rfl⟩⟩))
      go_ret
      exact ⟨by first | rfl | (simp; done) | (simp [*]; done), by repeat (first | exact Drawn0.refl _ | apply Drawn0.step)⟩
    · replace c6 := Bool.eq_false_iff.mpr c6
      subst c6
      have H1 : (if a0 = a1 then (some true) else (some ((Go.bits .andNot .u64 (Go.bits .or .u64 a0 a1) 9223372036854775808) == 0))) = some r := by rw [if_neg (show ¬ (false = true) by decide)] at H; exact H
      clear H
      have H := H1
      clear H1
      by_cases c7 : a0 = a1
      · rw [if_pos c7] at H
        have c7b0 : (a0 == a1) = true := beq_iff_eq.mpr c7
        have c7b1 : (a0 != a1) = false := bne_eq_false_iff_eq.mpr c7
        clear c7
        obtain rfl := Option.some.inj H
        go_enter Try.func32, Try.ntmps32
        go_wp2_with (first | ((with_reducible refine gate_callee (f := 52) rfl ?_); refine goesL_ (some 6) rfl rfl Try.func52 (by kernel_rfl) rfl #[.int .u64 a0] rfl (by (try simp only [List.map_toArray, List.map_cons, List.map_nil]); first | done | rfl | (simp only [List.length_drop, List.length_take]; rfl)) ?_; (with_reducible refine (moidoreref03_none.calls a0 false _ A3.out).mono ?_); rintro e w' ⟨rfl, ⟨nd, rfl⟩⟩; refine ⟨_, rfl, ?_⟩) | (go_at_call 52; (with_reducible refine (moidoreref03_none.calls a1 false _ A5.out).mono ?_); rintro e w' ⟨rfl, ⟨nd, rfl⟩⟩))
        go_ret
        exact ⟨by first | rfl | (simp; done) | (simp [*]; done), by repeat (first | exact Drawn0.refl _ | apply Drawn0.step)⟩
      · rw [if_neg c7] at H
        have c7b0 : (a0 == a1) = false := beq_eq_false_iff_ne.mpr c7
        have c7b1 : (a0 != a1) = true := bne_iff_ne.mpr c7
        obtain rfl := Option.some.inj H
        go_enter Try.func32, Try.ntmps32
        go_wp2_with (first | ((with_reducible refine gate_callee (f := 52) rfl ?_); refine goesL_ (some 6) rfl rfl Try.func52 (by kernel_rfl) rfl #[.int .u64 a0] rfl (by (try simp only [List.map_toArray, List.map_cons, List.map_nil]); first | done | rfl | (simp only [List.length_drop, List.length_take]; rfl)) ?_; (with_reducible refine (moidoreref03_none.calls a0 false _ A3.out).mono ?_); rintro e w' ⟨rfl, ⟨nd, rfl⟩⟩; refine ⟨_, rfl, ?_⟩) | (go_at_call 52; (with_reducible refine (moidoreref03_none.calls a1 false _ A5.out).mono ?_); rintro e w' ⟨rfl, ⟨nd, rfl⟩⟩))
        go_ret
        exact ⟨by first | rfl | (simp; done) | (simp [*]; done), by repeat (first | exact Drawn0.refl _ | apply Drawn0.step)⟩

/-! ### moidoreref03_Order: function 33 -/
def moidoreref03_Order.f (a0 : Int) (a1 : Int) : Option (Int) := (moidoreref03_Canon.f a0).bind fun t206 => ((moidoreref03_place.f t206).bind fun t207 => ((moidoreref03_Canon.f a1).bind fun t208 => ((moidoreref03_place.f t208).bind fun t209 => (if t207 < t209 then (some (-1)) else (if t207 > t209 then (some 1) else (some 0))))))
set_option maxHeartbeats 8000000 in
set_option maxRecDepth 100000 in
theorem moidoreref03_Order.calls (a0 : Int) (a1 : Int) (r : Int) (w : World) (h : moidoreref03_Order.f a0 a1 = some r) :
    Calls Try.prog 33 #[.int .u64 a0, .int .u64 a1] w fun e w' => e = .returned (.int .i64 r) ∧ Drawn0 w w' := by
  have H : ((moidoreref03_Canon.f a0).bind fun t206 => ((moidoreref03_place.f t206).bind fun t207 => ((moidoreref03_Canon.f a1).bind fun t208 => ((moidoreref03_place.f t208).bind fun t209 => (if t207 < t209 then (some (-1)) else (if t207 > t209 then (some 1) else (some 0))))))) = some r := h
  clear h
  replace H := Option.bind_eq_some_iff.mp H
  obtain ⟨t206, A30, H⟩ := H
  replace H : ((moidoreref03_place.f t206).bind fun t207 => ((moidoreref03_Canon.f a1).bind fun t208 => ((moidoreref03_place.f t208).bind fun t209 => (if t207 < t209 then (some (-1)) else (if t207 > t209 then (some 1) else (some 0)))))) = some r := H
  have A3 := Aside0.mk A30
  clear A30
  replace H := Option.bind_eq_some_iff.mp H
  obtain ⟨t207, A40, H⟩ := H
  replace H : ((moidoreref03_Canon.f a1).bind fun t208 => ((moidoreref03_place.f t208).bind fun t209 => (if t207 < t209 then (some (-1)) else (if t207 > t209 then (some 1) else (some 0))))) = some r := H
  have A4 := Aside0.mk A40
  clear A40
  replace H := Option.bind_eq_some_iff.mp H
  obtain ⟨t208, A50, H⟩ := H
  replace H : ((moidoreref03_place.f t208).bind fun t209 => (if t207 < t209 then (some (-1)) else (if t207 > t209 then (some 1) else (some 0)))) = some r := H
  have A5 := Aside0.mk A50
  clear A50
  replace H := Option.bind_eq_some_iff.mp H
  obtain ⟨t209, A60, H⟩ := H
  replace H : (if t207 < t209 then (some (-1)) else (if t207 > t209 then (some 1) else (some 0))) = some r := H
  have A6 := Aside0.mk A60
  clear A60
  by_cases c7 : t207 < t209
  · rw [if_pos c7] at H
    have c7b0 : decide (t207 < t209) = true := decide_eq_true c7
    clear c7
    obtain rfl := Option.some.inj H
    go_enter Try.func33, Try.ntmps33
    go_wp2_with (first | ((with_reducible refine gate_callee (f := 24) rfl ?_); refine goesL_ (some 8) rfl rfl Try.func24 (by kernel_rfl) rfl #[.int .u64 a0] rfl (by (try simp only [List.map_toArray, List.map_cons, List.map_nil]); first | done | rfl | (simp only [List.length_drop, List.length_take]; rfl)) ?_; (with_reducible refine (moidoreref03_Canon.calls a0 t206 _ A3.out).mono ?_); rintro e w' ⟨rfl, ⟨nd, rfl⟩⟩; refine ⟨_, rfl, ?_⟩) | ((with_reducible refine gate_callee (f := 61) rfl ?_); refine goesL_ (some 9) rfl rfl Try.func61 (by kernel_rfl) rfl #[.int .u64 t206] rfl (by (try simp only [List.map_toArray, List.map_cons, List.map_nil]); first | done | rfl | (simp only [List.length_drop, List.length_take]; rfl)) ?_; (with_reducible refine (moidoreref03_place.calls t206 t207 _ A4.out).mono ?_); rintro e w' ⟨rfl, ⟨nd, rfl⟩⟩; refine ⟨_, rfl, ?_⟩) | ((with_reducible refine gate_callee (f := 24) rfl ?_); refine goesL_ (some 11) rfl rfl Try.func24 (by kernel_rfl) rfl #[.int .u64 a1] rfl (by (try simp only [List.map_toArray, List.map_cons, List.map_nil]); first | done | rfl | (simp only [List.length_drop, List.length_take]; rfl)) ?_; (with_reducible refine (moidoreref03_Canon.calls a1 t208 _ A5.out).mono ?_); rintro e w' ⟨rfl, ⟨nd, rfl⟩⟩; refine ⟨_, rfl, ?_⟩) | ((with_reducible refine gate_callee (f := 61) rfl ?_); refine goesL_ (some 12) rfl rfl Try.func61 (by kernel_rfl) rfl #[.int .u64 t208] rfl (by (try simp only [List.map_toArray, List.map_cons, List.map_nil]); first | done | rfl | (simp only [List.length_drop, List.length_take]; rfl)) ?_; (with_reducible refine (moidoreref03_place.calls t208 t209 _ A6.out).mono ?_); rintro e w' ⟨rfl, ⟨nd, rfl⟩⟩; refine ⟨_, rfl, ?_⟩))
    go_ret
    exact ⟨by first | rfl | (simp; done) | (simp [*]; done), by repeat (first | exact Drawn0.refl _ | apply Drawn0.step)⟩
  · rw [if_neg c7] at H
    have c7b0 : decide (t207 < t209) = false := decide_eq_false c7
    clear c7
    by_cases c8 : t207 > t209
    · rw [if_pos c8] at H
      have c8b0 : decide (t209 < t207) = true := decide_eq_true c8
      clear c8
      obtain rfl := Option.some.inj H
      go_enter Try.func33, Try.ntmps33
      go_wp2_with (first | ((with_reducible refine gate_callee (f := 24) rfl ?_); refine goesL_ (some 8) rfl rfl Try.func24 (by kernel_rfl) rfl #[.int .u64 a0] rfl (by (try simp only [List.map_toArray, List.map_cons, List.map_nil]); first | done | rfl | (simp only [List.length_drop, List.length_take]; rfl)) ?_; (with_reducible refine (moidoreref03_Canon.calls a0 t206 _ A3.out).mono ?_); rintro e w' ⟨rfl, ⟨nd, rfl⟩⟩; refine ⟨_, rfl, ?_⟩) | ((with_reducible refine gate_callee (f := 61) rfl ?_); refine goesL_ (some 9) rfl rfl Try.func61 (by kernel_rfl) rfl #[.int .u64 t206] rfl (by (try simp only [List.map_toArray, List.map_cons, List.map_nil]); first | done | rfl | (simp only [List.length_drop, List.length_take]; rfl)) ?_; (with_reducible refine (moidoreref03_place.calls t206 t207 _ A4.out).mono ?_); rintro e w' ⟨rfl, ⟨nd, rfl⟩⟩; refine ⟨_, rfl, ?_⟩) | ((with_reducible refine gate_callee (f := 24) rfl ?_); refine goesL_ (some 11) rfl rfl Try.func24 (by kernel_rfl) rfl #[.int .u64 a1] rfl (by (try simp only [List.map_toArray, List.map_cons, List.map_nil]); first | done | rfl | (simp only [List.length_drop, List.length_take]; rfl)) ?_; (with_reducible refine (moidoreref03_Canon.calls a1 t208 _ A5.out).mono ?_); rintro e w' ⟨rfl, ⟨nd, rfl⟩⟩; refine ⟨_, rfl, ?_⟩) | ((with_reducible refine gate_callee (f := 61) rfl ?_); refine goesL_ (some 12) rfl rfl Try.func61 (by kernel_rfl) rfl #[.int .u64 t208] rfl (by (try simp only [List.map_toArray, List.map_cons, List.map_nil]); first | done | rfl | (simp only [List.length_drop, List.length_take]; rfl)) ?_; (with_reducible refine (moidoreref03_place.calls t208 t209 _ A6.out).mono ?_); rintro e w' ⟨rfl, ⟨nd, rfl⟩⟩; refine ⟨_, rfl, ?_⟩))
      go_ret
      exact ⟨by first | rfl | (simp; done) | (simp [*]; done), by repeat (first | exact Drawn0.refl _ | apply Drawn0.step)⟩
    · rw [if_neg c8] at H
      have c8b0 : decide (t209 < t207) = false := decide_eq_false c8
      clear c8
      obtain rfl := Option.some.inj H
      go_enter Try.func33, Try.ntmps33
      go_wp2_with (first | ((with_reducible refine gate_callee (f := 24) rfl ?_); refine goesL_ (some 8) rfl rfl Try.func24 (by kernel_rfl) rfl #[.int .u64 a0] rfl (by (try simp only [List.map_toArray, List.map_cons, List.map_nil]); first | done | rfl | (simp only [List.length_drop, List.length_take]; rfl)) ?_; (with_reducible refine (moidoreref03_Canon.calls a0 t206 _ A3.out).mono ?_); rintro e w' ⟨rfl, ⟨nd, rfl⟩⟩; refine ⟨_, rfl, ?_⟩) | ((with_reducible refine gate_callee (f := 61) rfl ?_); refine goesL_ (some 9) rfl rfl Try.func61 (by kernel_rfl) rfl #[.int .u64 t206] rfl (by (try simp only [List.map_toArray, List.map_cons, List.map_nil]); first | done | rfl | (simp only [List.length_drop, List.length_take]; rfl)) ?_; (with_reducible refine (moidoreref03_place.calls t206 t207 _ A4.out).mono ?_); rintro e w' ⟨rfl, ⟨nd, rfl⟩⟩; refine ⟨_, rfl, ?_⟩) | ((with_reducible refine gate_callee (f := 24) rfl ?_); refine goesL_ (some 11) rfl rfl Try.func24 (by kernel_rfl) rfl #[.int .u64 a1] rfl (by (try simp only [List.map_toArray, List.map_cons, List.map_nil]); first | done | rfl | (simp only [List.length_drop, List.length_take]; rfl)) ?_; (with_reducible refine (moidoreref03_Canon.calls a1 t208 _ A5.out).mono ?_); rintro e w' ⟨rfl, ⟨nd, rfl⟩⟩; refine ⟨_, rfl, ?_⟩) | ((with_reducible refine gate_callee (f := 61) rfl ?_); refine goesL_ (some 12) rfl rfl Try.func61 (by kernel_rfl) rfl #[.int .u64 t208] rfl (by (try simp only [List.map_toArray, List.map_cons, List.map_nil]); first | done | rfl | (simp only [List.length_drop, List.length_take]; rfl)) ?_; (with_reducible refine (moidoreref03_place.calls t208 t209 _ A6.out).mono ?_); rintro e w' ⟨rfl, ⟨nd, rfl⟩⟩; refine ⟨_, rfl, ?_⟩))
      go_ret
      exact ⟨by first | rfl | (simp; done) | (simp [*]; done), by repeat (first | exact Drawn0.refl _ | apply Drawn0.step)⟩

/-! ### moidoreref03_Of: function 34 -/
def moidoreref03_Of.f (k : Nat) (a0 : Int) : Option (Int) := if a0 < 0 then ((moidoreref03_rounded.f k true 0 (IntKind.u64.wrap (wrap64 (-a0))) 0 false).bind fun t210 => (some t210)) else ((moidoreref03_rounded.f k false 0 (IntKind.u64.wrap (a0)) 0 false).bind fun t211 => (some t211))
theorem moidoreref03_Of.mono : ∀ a0 k, LeO (moidoreref03_Of.f k a0) (moidoreref03_Of.f (k + 1) a0) := by
  intro a0 k
  unfold moidoreref03_Of.f
  repeat' first
      | (with_reducible exact moidoreref03_rounded.mono _ _ _ _ _ _)
      | (with_reducible exact LeO.refl _)
      | (with_reducible exact LeO.none _)
      | (with_reducible refine LeO.ite ?_ ?_)
      | (with_reducible refine LeO.bind ?_ (fun _ => ?_))
      | exact moidoreref03_rounded.mono _ _ _ _ _ _
      | exact LeO.none _
      | refine LeO.ite ?_ ?_
      | refine LeO.bind ?_ (fun _ => ?_)
set_option maxHeartbeats 8000000 in
set_option maxRecDepth 100000 in
theorem moidoreref03_Of.calls (k : Nat) (a0 : Int) (r : Int) (w : World) (h : moidoreref03_Of.f k a0 = some r) :
    Calls Try.prog 34 #[.int .i64 a0] w fun e w' => e = .returned (.int .u64 r) ∧ Below w.heap.size w w' := by
  have hu51 := Try.underlying51
  have HB := Aside0.mk (Below.refl w.heap.size w)
  have H : (if a0 < 0 then ((moidoreref03_rounded.f k true 0 (IntKind.u64.wrap (wrap64 (-a0))) 0 false).bind fun t210 => (some t210)) else ((moidoreref03_rounded.f k false 0 (IntKind.u64.wrap (a0)) 0 false).bind fun t211 => (some t211))) = some r := h
  clear h
  by_cases c2 : a0 < 0
  · rw [if_pos c2] at H
    have c2b0 : decide (a0 < 0) = true := decide_eq_true c2
    clear c2
    replace H := Option.bind_eq_some_iff.mp H
    obtain ⟨t210, A30, H⟩ := H
    replace H : (some t210) = some r := H
    have A3 := Aside0.mk A30
    clear A30
    obtain rfl := Option.some.inj H
    go_enter Try.func34, Try.ntmps34
    go_wp2_with (first | ((with_reducible refine gate_callee (f := 54) rfl ?_); refine goesL_ (some 9) rfl rfl Try.func54 (by kernel_rfl) rfl #[.agg #[.bool true, .int .u64 0, .int .u64 (IntKind.u64.wrap (wrap64 (-a0))), .int .i64 0, .bool false]] rfl (by (try simp only [List.map_toArray, List.map_cons, List.map_nil]); first | done | rfl | (simp only [List.length_drop, List.length_take]; rfl)) ?_; (with_reducible refine (moidoreref03_rounded.calls k true 0 (IntKind.u64.wrap (wrap64 (-a0))) 0 false t210 _ A3.out).mono ?_); rintro e w4 ⟨rfl, hb⟩; refine ⟨_, rfl, ?_⟩; have n0_ := Aside0.mk (below_step (by repeat (first | (with_reducible first | exact HB.out | apply below_alloc | apply pw_below_drewN | apply below_drew1) | exact HB.out)) hb); clear HB; have HB := n0_; clear n0_; (try clear hb); (try clear hb2); (try clear hk); (try clear hi)))
    go_ret
    exact ⟨by first | rfl | (simp [errW_none, errW_some] <;> rfl) | (simp [*, errW_none, errW_some] <;> rfl), by repeat (first | (with_reducible first | exact HB.out | apply below_alloc | apply pw_below_drewN | apply below_drew1) | exact HB.out)⟩
  · rw [if_neg c2] at H
    have c2b0 : decide (a0 < 0) = false := decide_eq_false c2
    clear c2
    replace H := Option.bind_eq_some_iff.mp H
    obtain ⟨t211, A50, H⟩ := H
    replace H : (some t211) = some r := H
    have A5 := Aside0.mk A50
    clear A50
    obtain rfl := Option.some.inj H
    go_enter Try.func34, Try.ntmps34
    go_wp2_with (first | ((with_reducible refine gate_callee (f := 54) rfl ?_); refine goesL_ (some 13) rfl rfl Try.func54 (by kernel_rfl) rfl #[.agg #[.bool false, .int .u64 0, .int .u64 (IntKind.u64.wrap (a0)), .int .i64 0, .bool false]] rfl (by (try simp only [List.map_toArray, List.map_cons, List.map_nil]); first | done | rfl | (simp only [List.length_drop, List.length_take]; rfl)) ?_; (with_reducible refine (moidoreref03_rounded.calls k false 0 (IntKind.u64.wrap (a0)) 0 false t211 _ A5.out).mono ?_); rintro e w6 ⟨rfl, hb⟩; refine ⟨_, rfl, ?_⟩; have n0_ := Aside0.mk (below_step (by repeat (first | (with_reducible first | exact HB.out | apply below_alloc | apply pw_below_drewN | apply below_drew1) | exact HB.out)) hb); clear HB; have HB := n0_; clear n0_; (try clear hb); (try clear hb2); (try clear hk); (try clear hi)))
    go_ret
    exact ⟨by first | rfl | (simp [errW_none, errW_some] <;> rfl) | (simp [*, errW_none, errW_some] <;> rfl), by repeat (first | (with_reducible first | exact HB.out | apply below_alloc | apply pw_below_drewN | apply below_drew1) | exact HB.out)⟩

-- from outside: moidorelaw03_FloatTells

/-! ### moidorelaw03_edges: function 35 -/
def moidorelaw03_edges.l0 : Nat → List Int → Int → Int → Option (List Int)
  | 0, _, _, _ => none
  | k + 1, x1, x2, x3 => if x3 < x2 then (if 0 ≤ x3 then (if x3 < (x1.length : Int) then (if x1.length < 17592186044416 then (moidorelaw03_edges.l0 k (x1 ++ [Go.bits .or .u64 (rd x1 x3) 9223372036854775808]) x2 (wrap64 (x3 + 1))) else (none)) else (none)) else (none)) else (some x1)
def moidorelaw03_edges.f (k : Nat)  : Option (List Int) := (some (([0, 1, 2, 4503599627370495, 4503599627370496, 4503599627370497, 9007199254740992, 4368491638549381119, 4368491638549381120, 4368491638549381121, 4363988038922010624, 4602678819172646912, 4607182418800017407, 4607182418800017408, 4607182418800017409, 4611686018427387904, 4609434218613702656, 4841369599423283200, 4845873199050653695, 4845873199050653696, 4888657395510673408, 4890909195324358655, 4890909195324358656, 4890909195324358657, 4895412794951729152, 6908521828386340864, 6913025428013711360, 9209861237972664320, 9214364837600034816, 9218868437227405311, 9218868437227405312, 9218868437227405313, 9221120237041090559, 9221120237041090560, 9221120237041090561, 9223372036854775807, 2305843009213693952, 2301339409586323463] : List Int) : List Int)).bind fun y212 => (moidorelaw03_edges.l0 k y212 (y212.length : Int) 0)
theorem moidorelaw03_edges.mono_l : ∀ k, (∀ y0 y1 y2, LeO (moidorelaw03_edges.l0 k y0 y1 y2) (moidorelaw03_edges.l0 (k + 1) y0 y1 y2))
  | 0 => fun _ _ _ r h => by simp [moidorelaw03_edges.l0] at h
  | k + 1 => by
    have ih0 := moidorelaw03_edges.mono_l k
    · intro y0 y1 y2
      unfold moidorelaw03_edges.l0
      repeat' first
      | (with_reducible exact ih0 _ _ _)
      | (with_reducible exact LeO.refl _)
      | (with_reducible exact LeO.none _)
      | (with_reducible refine LeO.ite ?_ ?_)
      | (with_reducible refine LeO.bind ?_ (fun _ => ?_))
      | exact ih0 _ _ _
      | exact LeO.none _
      | refine LeO.ite ?_ ?_
      | refine LeO.bind ?_ (fun _ => ?_)
theorem moidorelaw03_edges.mono : ∀ k, LeO (moidorelaw03_edges.f k ) (moidorelaw03_edges.f (k + 1) ) := by
  intro  k
  have ih0 := moidorelaw03_edges.mono_l k
  unfold moidorelaw03_edges.f
  repeat' first
      | (with_reducible exact ih0 _ _ _)
      | (with_reducible exact LeO.refl _)
      | (with_reducible exact LeO.none _)
      | (with_reducible refine LeO.ite ?_ ?_)
      | (with_reducible refine LeO.bind ?_ (fun _ => ?_))
      | exact ih0 _ _ _
      | exact LeO.none _
      | refine LeO.ite ?_ ?_
      | refine LeO.bind ?_ (fun _ => ?_)
set_option maxHeartbeats 8000000 in
set_option maxRecDepth 100000 in
theorem moidorelaw03_edges.calls (k : Nat)  (r : List Int) (w : World) (h : moidorelaw03_edges.f k  = some r) :
    Calls Try.prog 35 #[] w fun e w' => ∃ v0_ : Value, e = .returned (v0_) ∧ Kd.R (Kd.int .u64) 22 w' w.heap.size (fun _ => True) v0_ r ∧ Below w.heap.size w w' := by
  have HB := Aside0.mk (Below.refl w.heap.size w)
  have H : ((some (([0, 1, 2, 4503599627370495, 4503599627370496, 4503599627370497, 9007199254740992, 4368491638549381119, 4368491638549381120, 4368491638549381121, 4363988038922010624, 4602678819172646912, 4607182418800017407, 4607182418800017408, 4607182418800017409, 4611686018427387904, 4609434218613702656, 4841369599423283200, 4845873199050653695, 4845873199050653696, 4888657395510673408, 4890909195324358655, 4890909195324358656, 4890909195324358657, 4895412794951729152, 6908521828386340864, 6913025428013711360, 9209861237972664320, 9214364837600034816, 9218868437227405311, 9218868437227405312, 9218868437227405313, 9221120237041090559, 9221120237041090560, 9221120237041090561, 9223372036854775807, 2305843009213693952, 2301339409586323463] : List Int) : List Int)).bind fun y212 => (moidorelaw03_edges.l0 k y212 (y212.length : Int) 0)) = some r := h
  clear h
  obtain ⟨y212, hy212⟩ : ∃ y_ : List Int, y_ = (([0, 1, 2, 4503599627370495, 4503599627370496, 4503599627370497, 9007199254740992, 4368491638549381119, 4368491638549381120, 4368491638549381121, 4363988038922010624, 4602678819172646912, 4607182418800017407, 4607182418800017408, 4607182418800017409, 4611686018427387904, 4609434218613702656, 4841369599423283200, 4845873199050653695, 4845873199050653696, 4888657395510673408, 4890909195324358655, 4890909195324358656, 4890909195324358657, 4895412794951729152, 6908521828386340864, 6913025428013711360, 9209861237972664320, 9214364837600034816, 9218868437227405311, 9218868437227405312, 9218868437227405313, 9221120237041090559, 9221120237041090560, 9221120237041090561, 9223372036854775807, 2305843009213693952, 2301339409586323463] : List Int)) := ⟨_, rfl⟩
  replace H : (moidorelaw03_edges.l0 k y212 (y212.length : Int) 0) = some r := by first | (rw [hy212]; with_reducible exact H) | (have H2_ := (Option.bind_some _ _).symm.trans H; rw [hy212]; with_reducible exact H2_) | (have H2_ := (Option.bind_some _ _).symm.trans H; with_reducible exact H2_) | with_reducible exact H | (rw [hy212]; exact H) | exact H
  have Ny212 := Aside0.mk hy212
  clear hy212
  have H' := Aside0.mk H
  clear H
  go_enter Try.func35, Try.ntmps35
  go_wp2_with (first | ((with_reducible refine gate_dst (N := 4) rfl ?_); refine Kd.R_lit (Kd.int .u64) _ 22 ?hg (N := 4) ?hd (xs := ([0, 1, 2, 4503599627370495, 4503599627370496, 4503599627370497, 9007199254740992, 4368491638549381119, 4368491638549381120, 4368491638549381121, 4363988038922010624, 4602678819172646912, 4607182418800017407, 4607182418800017408, 4607182418800017409, 4611686018427387904, 4609434218613702656, 4841369599423283200, 4845873199050653695, 4845873199050653696, 4888657395510673408, 4890909195324358655, 4890909195324358656, 4890909195324358657, 4895412794951729152, 6908521828386340864, 6913025428013711360, 9209861237972664320, 9214364837600034816, 9218868437227405311, 9218868437227405312, 9218868437227405313, 9221120237041090559, 9221120237041090560, 9221120237041090561, 9223372036854775807, 2305843009213693952, 2301339409586323463] : List Int)) (inner := [.int .u64 0, .int .u64 1, .int .u64 2, .int .u64 4503599627370495, .int .u64 4503599627370496, .int .u64 4503599627370497, .int .u64 9007199254740992, .int .u64 4368491638549381119, .int .u64 4368491638549381120, .int .u64 4368491638549381121, .int .u64 4363988038922010624, .int .u64 4602678819172646912, .int .u64 4607182418800017407, .int .u64 4607182418800017408, .int .u64 4607182418800017409, .int .u64 4611686018427387904, .int .u64 4609434218613702656, .int .u64 4841369599423283200, .int .u64 4845873199050653695, .int .u64 4845873199050653696, .int .u64 4888657395510673408, .int .u64 4890909195324358655, .int .u64 4890909195324358656, .int .u64 4890909195324358657, .int .u64 4895412794951729152, .int .u64 6908521828386340864, .int .u64 6913025428013711360, .int .u64 9209861237972664320, .int .u64 9214364837600034816, .int .u64 9218868437227405311, .int .u64 9218868437227405312, .int .u64 9218868437227405313, .int .u64 9221120237041090559, .int .u64 9221120237041090560, .int .u64 9221120237041090561, .int .u64 9223372036854775807, .int .u64 2305843009213693952, .int .u64 2301339409586323463]) (ok := fun _ => True) (okp := fun _ => True) ?hr ?hp (fun _ hk => hk) trivial (Below.refl _ _) (Nat.le_refl _) (by simp) ?_; (case hd => rfl); (case hg => rfl); (case hr => first | (go_simp; done) | (go_simp; rfl)); (case hp => exact (Reps.one (show Kd.M (Kd.int .u64) _ _ _ 0 [.int .u64 0] from rfl) (Reps.one (show Kd.M (Kd.int .u64) _ _ _ 1 [.int .u64 1] from rfl) (Reps.one (show Kd.M (Kd.int .u64) _ _ _ 2 [.int .u64 2] from rfl) (Reps.one (show Kd.M (Kd.int .u64) _ _ _ 4503599627370495 [.int .u64 4503599627370495] from rfl) (Reps.one (show Kd.M (Kd.int .u64) _ _ _ 4503599627370496 [.int .u64 4503599627370496] from rfl) (Reps.one (show Kd.M (Kd.int .u64) _ _ _ 4503599627370497 [.int .u64 4503599627370497] from rfl) (Reps.one (show Kd.M (Kd.int .u64) _ _ _ 9007199254740992 [.int .u64 9007199254740992] from rfl) (Reps.one (show Kd.M (Kd.int .u64) _ _ _ 4368491638549381119 [.int .u64 4368491638549381119] from rfl) (Reps.one (show Kd.M (Kd.int .u64) _ _ _ 4368491638549381120 [.int .u64 4368491638549381120] from rfl) (Reps.one (show Kd.M (Kd.int .u64) _ _ _ 4368491638549381121 [.int .u64 4368491638549381121] from rfl) (Reps.one (show Kd.M (Kd.int .u64) _ _ _ 4363988038922010624 [.int .u64 4363988038922010624] from rfl) (Reps.one (show Kd.M (Kd.int .u64) _ _ _ 4602678819172646912 [.int .u64 4602678819172646912] from rfl) (Reps.one (show Kd.M (Kd.int .u64) _ _ _ 4607182418800017407 [.int .u64 4607182418800017407] from rfl) (Reps.one (show Kd.M (Kd.int .u64) _ _ _ 4607182418800017408 [.int .u64 4607182418800017408] from rfl) (Reps.one (show Kd.M (Kd.int .u64) _ _ _ 4607182418800017409 [.int .u64 4607182418800017409] from rfl) (Reps.one (show Kd.M (Kd.int .u64) _ _ _ 4611686018427387904 [.int .u64 4611686018427387904] from rfl) (Reps.one (show Kd.M (Kd.int .u64) _ _ _ 4609434218613702656 [.int .u64 4609434218613702656] from rfl) (Reps.one (show Kd.M (Kd.int .u64) _ _ _ 4841369599423283200 [.int .u64 4841369599423283200] from rfl) (Reps.one (show Kd.M (Kd.int .u64) _ _ _ 4845873199050653695 [.int .u64 4845873199050653695] from rfl) (Reps.one (show Kd.M (Kd.int .u64) _ _ _ 4845873199050653696 [.int .u64 4845873199050653696] from rfl) (Reps.one (show Kd.M (Kd.int .u64) _ _ _ 4888657395510673408 [.int .u64 4888657395510673408] from rfl) (Reps.one (show Kd.M (Kd.int .u64) _ _ _ 4890909195324358655 [.int .u64 4890909195324358655] from rfl) (Reps.one (show Kd.M (Kd.int .u64) _ _ _ 4890909195324358656 [.int .u64 4890909195324358656] from rfl) (Reps.one (show Kd.M (Kd.int .u64) _ _ _ 4890909195324358657 [.int .u64 4890909195324358657] from rfl) (Reps.one (show Kd.M (Kd.int .u64) _ _ _ 4895412794951729152 [.int .u64 4895412794951729152] from rfl) (Reps.one (show Kd.M (Kd.int .u64) _ _ _ 6908521828386340864 [.int .u64 6908521828386340864] from rfl) (Reps.one (show Kd.M (Kd.int .u64) _ _ _ 6913025428013711360 [.int .u64 6913025428013711360] from rfl) (Reps.one (show Kd.M (Kd.int .u64) _ _ _ 9209861237972664320 [.int .u64 9209861237972664320] from rfl) (Reps.one (show Kd.M (Kd.int .u64) _ _ _ 9214364837600034816 [.int .u64 9214364837600034816] from rfl) (Reps.one (show Kd.M (Kd.int .u64) _ _ _ 9218868437227405311 [.int .u64 9218868437227405311] from rfl) (Reps.one (show Kd.M (Kd.int .u64) _ _ _ 9218868437227405312 [.int .u64 9218868437227405312] from rfl) (Reps.one (show Kd.M (Kd.int .u64) _ _ _ 9218868437227405313 [.int .u64 9218868437227405313] from rfl) (Reps.one (show Kd.M (Kd.int .u64) _ _ _ 9221120237041090559 [.int .u64 9221120237041090559] from rfl) (Reps.one (show Kd.M (Kd.int .u64) _ _ _ 9221120237041090560 [.int .u64 9221120237041090560] from rfl) (Reps.one (show Kd.M (Kd.int .u64) _ _ _ 9221120237041090561 [.int .u64 9221120237041090561] from rfl) (Reps.one (show Kd.M (Kd.int .u64) _ _ _ 9223372036854775807 [.int .u64 9223372036854775807] from rfl) (Reps.one (show Kd.M (Kd.int .u64) _ _ _ 2305843009213693952 [.int .u64 2305843009213693952] from rfl) (Reps.one (show Kd.M (Kd.int .u64) _ _ _ 2301339409586323463 [.int .u64 2301339409586323463] from rfl) (Reps.none _ _)))))))))))))))))))))))))))))))))))))))); intro v213 w1 ho2 hb hg_ hnew_; clear hg_ hnew_; (first | rw [← Ny212.out] at ho2 | (simp only [Int.reduceToNat] at ho2; rw [← Ny212.out] at ho2)); have n0_ := Aside0.mk (Kd.R_lower ho2 (below_size (by repeat (first | (with_reducible first | exact HB.out | apply below_alloc | apply pw_below_drewN | apply below_drew1) | exact HB.out)))); have n1_ := Aside0.mk (below_step (by repeat (first | (with_reducible first | exact HB.out | apply below_alloc | apply pw_below_drewN | apply below_drew1) | exact HB.out)) hb); clear HB; have HO214 := n0_; have HB := n1_; clear n0_ n1_; clear hb ho2; obtain ⟨Ao3, co3, eo3⟩ := Kd.R_slice HO214.out; subst eo3))
  go_loopg [1, 3] k (fun kq v1 v3 w' => ∃ (x1_1 : List Int) (x3_1 : Int), v3 = .int .i64 x3_1 ∧ Aside0 (moidorelaw03_edges.l0 kq x1_1 (y212.length : Int) x3_1 = some r) ∧ Aside0 (kq ≤ k) ∧ Aside0 (Kd.R (Kd.int .u64) 22 w' w.heap.size (fun _ => True) v1 x1_1) ∧ Aside0 (Below w.heap.size w w'))
  case atStart => exact ⟨(y212), (0), (by first | rfl | (simp; done) | (simp [*]; done)), H', ⟨Nat.le_refl _⟩, ⟨by (with_reducible repeat (first | apply Kd.R_alloc | apply Kd.R_drewN | apply Kd.R_drew)); exact HO214.out⟩, ⟨by repeat (first | (with_reducible first | exact HB.out | apply below_alloc | apply pw_below_drewN | apply below_drew1) | exact HB.out)⟩⟩
  case round =>
    clear H'
    try clear p2
    try clear c3
    obtain ⟨x1_1, x3_1, rfl, HA, HK1, HO_1, HB⟩ := hrel
    cases gk with
    | zero => exact absurd HA.out (by simp [moidorelaw03_edges.l0])
    | succ k1 =>
      have H := HA.out
      clear HA
      simp only [moidorelaw03_edges.l0] at H
      by_cases c4 : x3_1 < (y212.length : Int)
      · rw [if_pos c4] at H
        have c4b0 : decide (x3_1 < (y212.length : Int)) = true := decide_eq_true c4
        clear c4
        by_cases c5 : 0 ≤ x3_1
        · rw [if_pos c5] at H
          have c5b0 : decide (0 ≤ x3_1) = true := decide_eq_true c5
          clear c5
          by_cases c6 : x3_1 < (x1_1.length : Int)
          · rw [if_pos c6] at H
            have c6b0 : decide (x3_1 < (x1_1.length : Int)) = true := decide_eq_true c6
            clear c6
            by_cases c7 : x1_1.length < 17592186044416
            · rw [if_pos c7] at H
              have LMc7 := Aside0.mk c7
              clear c7
              obtain ⟨y216, hy216⟩ : ∃ y_ : List Int, y_ = (x1_1 ++ [Go.bits .or .u64 (rd x1_1 x3_1) 9223372036854775808]) := ⟨_, rfl⟩
              replace H : (moidorelaw03_edges.l0 k1 y216 (y212.length : Int) (wrap64 (x3_1 + 1))) = some r := by first | (rw [hy216]; with_reducible exact H) | (have H2_ := (Option.bind_some _ _).symm.trans H; rw [hy216]; with_reducible exact H2_) | (have H2_ := (Option.bind_some _ _).symm.trans H; with_reducible exact H2_) | with_reducible exact H | (rw [hy216]; exact H) | exact H
              have Ny216 := Aside0.mk hy216
              clear hy216
              have H' := Aside0.mk H
              clear H
              obtain ⟨Ao8, co8, eo8⟩ := Kd.R_slice HO_1.out
              subst eo8
              have p215 : 0 ≤ (x3_1 : Int) := of_decide_eq_true (by first | (with_reducible assumption) | assumption)
              have q215 : x3_1 < (x1_1.length : Int) := of_decide_eq_true (by first | (with_reducible assumption) | assumption)
              obtain ⟨ad215, e215, hx215_0⟩ := Kd.at_int (Kd.R_reads' HO_1.out).2.2 x3_1 p215 q215
              cases e215
              replace p215 := eq_true p215
              replace q215 := eq_true q215
              go_wp2_with (first | ((with_reducible refine gate_builtin (b := .append) (xs := #[.tmp 12, .tmp 18]) rfl ?_); at_builtin; refine Kd.R_append (Kd.int .u64) (w0 := w) w.heap.size rfl (.tmp 12) (.tmp 18) 33 22 (.int .u64 0) 8 rfl Try.underlying33 info22 rfl (by decide) (by omega) (.slice (some ad215) x1_1.length co8) x1_1 (Go.bits .or .u64 (rd x1_1 x3_1) 9223372036854775808) [.int .u64 (Go.bits .or .u64 (rd x1_1 x3_1) 9223372036854775808)] (fun _ => True) (fun _ => False) rfl rfl ?aP (fun _ hk => hk.elim) ?aF ?aO ?aB ?aS ?aL ?_; (case aP => exact rfl); (case aB => exact (by repeat (first | (with_reducible first | exact HB.out | apply below_alloc | apply pw_below_drewN | apply below_drew1) | exact HB.out))); (case aF => exact (fun _ _ => trivial)); (case aO => exact (by (with_reducible repeat (first | apply Kd.R_alloc | apply Kd.R_drewN | apply Kd.R_drew)); exact HO_1.out)); (case aS => exact (below_size (by repeat (first | (with_reducible first | exact HB.out | apply below_alloc | apply pw_below_drewN | apply below_drew1) | exact HB.out)))); (case aL => have := LMc7.out; omega); intro v217 w9 ho hb hg hat; rw [← Ny216.out] at ho; have n0_ := Aside0.mk (hb); have n1_ := Aside0.mk (ho); clear HB; clear HO_1; have HB := n0_; have HO218 := n1_; clear n0_ n1_; clear ho hb hg hat))
              go_roundg k1
              case measure => have := HK1.out; omega
              case rel => exact ⟨(y216), (wrap64 (x3_1 + 1)), (by first | rfl | (simp; done) | (simp [*]; done)), H', ⟨by have := HK1.out; omega⟩, ⟨by (with_reducible repeat (first | apply Kd.R_alloc | apply Kd.R_drewN | apply Kd.R_drew)); exact HO218.out⟩, ⟨by repeat (first | (with_reducible first | exact HB.out | apply below_alloc | apply pw_below_drewN | apply below_drew1) | exact HB.out)⟩⟩
            · rw [if_neg c7] at H
              exact absurd H (by simp)
          · rw [if_neg c6] at H
            exact absurd H (by simp)
        · rw [if_neg c5] at H
          exact absurd H (by simp)
      · rw [if_neg c4] at H
        have c4b0 : decide (x3_1 < (y212.length : Int)) = false := decide_eq_false c4
        clear c4
        obtain rfl := Option.some.inj H
        go_wp2
        go_ret
        exact ⟨_, by first | rfl | (simp [errW_none, errW_some] <;> rfl) | (simp [*, errW_none, errW_some] <;> rfl), by (with_reducible repeat (first | apply Kd.R_alloc | apply Kd.R_drewN | apply Kd.R_drew)); exact HO_1.out, by repeat (first | (with_reducible first | exact HB.out | apply below_alloc | apply pw_below_drewN | apply below_drew1) | exact HB.out)⟩

end Go.Proofs.Ytcobpbhmpolceaa.PE
