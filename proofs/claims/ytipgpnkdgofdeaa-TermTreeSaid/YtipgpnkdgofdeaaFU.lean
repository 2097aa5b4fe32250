import Derived.Test.YtipgpnkdgofdeaaFT
namespace Go.Proofs.Ytipgpnkdgofdeaa.Fl
open Go.RowKit

theorem Signbit_any (b : Nat) (w : World) : Calls Try.prog 70 #[.float .f64 b] w fun e w' => e = .returned (.bool (decide (wrap64 (b : Int) < 0))) ∧ w = w' := by
  go_enter Try.func70, Try.ntmps70
  go_wp2
  go_ret
  exact ⟨rfl, rfl⟩

/-- What sets apart reals that are no less, and no more. -/
def fedge (b : Nat) : Int := if FloatKind.f64.format.order b b = some .eq then (if FloatKind.f64.format.order b 0 = some .eq ∧ wrap64 (b : Int) < 0 then -1 else 0) else 2

theorem edge_any (b : Nat) (w : World) : Calls Try.prog 48 #[.float .f64 b] w fun e w' => e = .returned (.int .i64 (fedge b)) ∧ w = w' := by
  by_cases h : FloatKind.f64.format.order b b = some .eq
  · have hb : (FloatKind.f64.format.order b b != some .eq) = false := by simp [h]
    by_cases h1 : FloatKind.f64.format.order b 0 = some .eq
    · have hc : (FloatKind.f64.format.order b 0 == some .eq) = true := by simp [h1]
      by_cases h2 : wrap64 (b : Int) < 0
      · have hd : decide (wrap64 (b : Int) < 0) = true := by simp [h2]
        have hf : fedge b = -1 := by rw [fedge, if_pos h, if_pos ⟨h1, h2⟩]
        have HF := Lib.hid hf; clear hf
        clear h h1
        go_enter Try.func48, Try.ntmps48
        go_wp2_with (go_at_call 70; refine (Signbit_any _ _).mono ?_; rintro e w' ⟨rfl, rfl⟩)
        go_ret
        exact ⟨by rw [HF.out]; rfl, rfl⟩
      · have hd : decide (wrap64 (b : Int) < 0) = false := by simp; omega
        have hf : fedge b = 0 := by rw [fedge, if_pos h, if_neg (fun x => h2 x.2)]
        have HF := Lib.hid hf; clear hf
        clear h h1
        go_enter Try.func48, Try.ntmps48
        go_wp2_with (go_at_call 70; refine (Signbit_any _ _).mono ?_; rintro e w' ⟨rfl, rfl⟩)
        go_ret
        exact ⟨by rw [HF.out]; rfl, rfl⟩
    · have hc : (FloatKind.f64.format.order b 0 == some .eq) = false := by simp [h1]
      have hf : fedge b = 0 := by rw [fedge, if_pos h, if_neg (fun x => h1 x.1)]
      have HF := Lib.hid hf; clear hf
      clear h h1
      go_enter Try.func48, Try.ntmps48
      go_wp2_with (go_at_call 70; refine (Signbit_any _ _).mono ?_; rintro e w' ⟨rfl, rfl⟩)
      go_ret
      exact ⟨by rw [HF.out]; rfl, rfl⟩
  · have hb : (FloatKind.f64.format.order b b != some .eq) = true := by simp [h]
    have hf : fedge b = 2 := by rw [fedge, if_neg h]
    have HF := Lib.hid hf; clear hf
    clear h
    go_enter Try.func48, Try.ntmps48
    go_wp2
    go_ret
    exact ⟨by rw [HF.out]; rfl, rfl⟩

/-- What Order tells. -/
def ford (a b : Int) : Int := if FloatKind.f64.format.order a.toNat b.toNat = some .lt then -1 else if FloatKind.f64.format.order a.toNat b.toNat = some .gt then 1
  else if fedge a.toNat < fedge b.toNat then -1 else if fedge b.toNat < fedge a.toNat then 1 else 0

theorem Order_any (a b : Int) (w : World) : Calls Try.prog 23 #[.int .u64 a, .int .u64 b] w fun e w' => e = .returned (.int .i64 (ford a b)) ∧ w = w' := by
  by_cases h1 : (FloatKind.f64.format.order a.toNat b.toNat == some .lt) = true
  · have n1 : FloatKind.f64.format.order a.toNat b.toNat = some .lt := by simpa using h1
    have n2 := n1
    have hf : ford a b = -1 := by rw [ford, if_pos n1]
    have HF := Lib.hid hf; clear hf n1 n2
    go_enter Try.func23, Try.ntmps23
    go_wp2_with (go_at_call 48; refine (edge_any _ _).mono ?_; rintro e w' ⟨rfl, rfl⟩)
    go_ret
    exact ⟨by rw [HF.out]; rfl, rfl⟩
  · replace h1 : (FloatKind.f64.format.order a.toNat b.toNat == some .lt) = false := by simpa using h1
    have n1 : ¬ FloatKind.f64.format.order a.toNat b.toNat = some .lt := by simpa using h1
    by_cases h2 : (FloatKind.f64.format.order a.toNat b.toNat == some .gt) = true
    · have n2 : FloatKind.f64.format.order a.toNat b.toNat = some .gt := by simpa using h2
      have hf : ford a b = 1 := by rw [ford, if_neg n1, if_pos n2]
      have HF := Lib.hid hf; clear hf n1 n2
      go_enter Try.func23, Try.ntmps23
      go_wp2_with (go_at_call 48; refine (edge_any _ _).mono ?_; rintro e w' ⟨rfl, rfl⟩)
      go_ret
      exact ⟨by rw [HF.out]; rfl, rfl⟩
    · replace h2 : (FloatKind.f64.format.order a.toNat b.toNat == some .gt) = false := by simpa using h2
      have n2 : ¬ FloatKind.f64.format.order a.toNat b.toNat = some .gt := by simpa using h2
      by_cases h3 : fedge a.toNat < fedge b.toNat
      · have hf : ford a b = -1 := by rw [ford, if_neg n1, if_neg n2, if_pos h3]
        have HF := Lib.hid hf; clear hf n1 n2
        go_enter Try.func23, Try.ntmps23
        go_wp2_with (go_at_call 48; refine (edge_any _ _).mono ?_; rintro e w' ⟨rfl, rfl⟩)
        go_ret
        exact ⟨by rw [HF.out]; rfl, rfl⟩
      · by_cases h4 : fedge b.toNat < fedge a.toNat
        · have hf : ford a b = 1 := by rw [ford, if_neg n1, if_neg n2, if_neg h3, if_pos h4]
          have HF := Lib.hid hf; clear hf n1 n2
          go_enter Try.func23, Try.ntmps23
          go_wp2_with (go_at_call 48; refine (edge_any _ _).mono ?_; rintro e w' ⟨rfl, rfl⟩)
          go_ret
          exact ⟨by rw [HF.out]; rfl, rfl⟩
        · have hf : ford a b = 0 := by rw [ford, if_neg n1, if_neg n2, if_neg h3, if_neg h4]
          have HF := Lib.hid hf; clear hf n1 n2
          go_enter Try.func23, Try.ntmps23
          go_wp2_with (go_at_call 48; refine (edge_any _ _).mono ?_; rintro e w' ⟨rfl, rfl⟩)
          go_ret
          exact ⟨by rw [HF.out]; rfl, rfl⟩

end Go.Proofs.Ytipgpnkdgofdeaa.Fl
