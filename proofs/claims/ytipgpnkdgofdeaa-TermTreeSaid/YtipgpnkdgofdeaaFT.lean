import Derived.Test.YtipgpnkdgofdeaaFA
import Derived.Test.YtipgpnkdgofdeaaFR
import Derived.Laws.FloatArith
namespace Go.Proofs.Ytipgpnkdgofdeaa.Fl
open Go.RowKit

theorem fbits_ok {r : Nat} (h : rg r ≤ rinf) : fbits r = r := by unfold fbits; rw [if_pos]; exact order_self.2 h
theorem fbits_nan {r : Nat} (h : rinf < rg r) : fbits r = 9221120237041090560 := by unfold fbits; rw [if_neg]; rw [show FloatKind.f64.format = Ieee.double from rfl, order_self]; omega

theorem write_ok (d : Ieee.Datum) (h : d.isNaN = false) : rg (Ieee.double.write d) ≤ rinf := by
  cases d with
  | nan => cases h
  | infinity s => show rg (Ieee.double.word s rinf) ≤ rinf; rw [rg_word _ (by decide)]; exact Nat.le_refl _
  | number s m p =>
    show rg (Ieee.double.nearest s m p) ≤ rinf
    unfold Ieee.Format.nearest
    dsimp only
    split
    · rw [rg_word _ (by decide)]; exact Nat.zero_le _
    · rw [rg_word]
      · exact Nat.min_le_right _ _
      · exact Nat.lt_of_le_of_lt (Nat.min_le_right _ _) (by decide)

theorem nan_cut (x y t : Nat) : rinf < rg ((Question.nanBits .f64 x y).cut t) := by
  show rinf < rg ((t % 2) * 2 ^ 63 + 0x7ff0000000000000 + 1 + (t / 2) % (2 ^ 52 - 1))
  unfold rg rinf
  have h1 : (t / 2) % (2 ^ 52 - 1) < 4503599627370495 := Nat.mod_lt _ (by decide)
  generalize (t / 2) % (2 ^ 52 - 1) = x at *
  rcases (by omega : t % 2 = 0 ∨ t % 2 = 1) with h | h <;> rw [h] <;> omega

theorem sum_nan {x y : Ieee.Datum} {r : Ieee.Datum} (h : x.sum y = some r) : r.isNaN = false := by
  unfold Ieee.Datum.sum at h
  split at h <;> (try split at h) <;> first | (cases h; done) | (cases h; rfl)
theorem product_nan {x y : Ieee.Datum} {r : Ieee.Datum} (h : x.product y = some r) : r.isNaN = false := by
  unfold Ieee.Datum.product at h
  split at h <;> (try split at h) <;> first | (cases h; done) | (cases h; rfl)
theorem quotient_nan {n : Nat} {x y : Ieee.Datum} {r : Ieee.Datum} (h : x.quotient n y = some r) : r.isNaN = false := by
  unfold Ieee.Datum.quotient at h
  split at h <;> (try split at h) <;> (try split at h) <;> first | (cases h; done) | (cases h; rfl)
theorem root_nan {n : Nat} {x : Ieee.Datum} {r : Ieee.Datum} (h : x.root n = some r) : r.isNaN = false := by
  unfold Ieee.Datum.root at h
  split at h <;> (try split at h) <;> (try split at h) <;> first | (cases h; done) | (cases h; rfl)
theorem map_ok {o : Option Ieee.Datum} {r : Nat} (h : o.map Ieee.double.write = some r) (hn : ∀ d, o = some d → d.isNaN = false) : rg r ≤ rinf := by
  cases o with
  | none => cases h
  | some d => simp at h; subst h; exact write_ok d (hn d rfl)
theorem add_ok {x y r : Nat} (h : Ieee.double.add x y = some r) : rg r ≤ rinf := map_ok h fun _ => sum_nan
theorem sub_ok {x y r : Nat} (h : Ieee.double.sub x y = some r) : rg r ≤ rinf := map_ok h fun _ => sum_nan
theorem mul_ok {x y r : Nat} (h : Ieee.double.mul x y = some r) : rg r ≤ rinf := map_ok h fun _ => product_nan
theorem div_ok {x y r : Nat} (h : Ieee.double.div x y = some r) : rg r ≤ rinf := map_ok h fun _ => quotient_nan
theorem sqrt_ok {x r : Nat} (h : Ieee.double.sqrt x = some r) : rg r ≤ rinf := map_ok h fun _ => root_nan

/-- What a sum, a difference, .. comes to: every NaN as one. -/
def fr (o : Option Nat) : Int := match o with | some r => (r : Int) | none => 9221120237041090560

theorem add_none_run (w : World) (t : TypeId) (x y : Nat) (h : Ieee.double.add x y = none) : (binOp .add t (.float .f64 x) (.float .f64 y)).run Try.prog w = .ok (.float .f64 ((Question.nanBits .f64 x y).cut (w.tape w.drawn (.nanBits .f64 x y)))) w.drew := by
  have h' : FloatKind.f64.format.add x y = none := h
  simp [binOp, Op.floatArith, h', go_sem]

/-- What Add tells. -/
def fadd (a b : Int) : Int := fr (Ieee.double.add a.toNat b.toNat)

theorem sub_none_run (w : World) (t : TypeId) (x y : Nat) (h : Ieee.double.sub x y = none) : (binOp .sub t (.float .f64 x) (.float .f64 y)).run Try.prog w = .ok (.float .f64 ((Question.nanBits .f64 x y).cut (w.tape w.drawn (.nanBits .f64 x y)))) w.drew := by
  have h' : FloatKind.f64.format.sub x y = none := h
  simp [binOp, Op.floatArith, h', go_sem]

/-- What Sub tells. -/
def fsub (a b : Int) : Int := fr (Ieee.double.sub a.toNat b.toNat)

theorem mul_none_run (w : World) (t : TypeId) (x y : Nat) (h : Ieee.double.mul x y = none) : (binOp .mul t (.float .f64 x) (.float .f64 y)).run Try.prog w = .ok (.float .f64 ((Question.nanBits .f64 x y).cut (w.tape w.drawn (.nanBits .f64 x y)))) w.drew := by
  have h' : FloatKind.f64.format.mul x y = none := h
  simp [binOp, Op.floatArith, h', go_sem]

/-- What Mul tells. -/
def fmul (a b : Int) : Int := fr (Ieee.double.mul a.toNat b.toNat)

theorem div_none_run (w : World) (t : TypeId) (x y : Nat) (h : Ieee.double.div x y = none) : (binOp .quo t (.float .f64 x) (.float .f64 y)).run Try.prog w = .ok (.float .f64 ((Question.nanBits .f64 x y).cut (w.tape w.drawn (.nanBits .f64 x y)))) w.drew := by
  have h' : FloatKind.f64.format.div x y = none := h
  simp [binOp, Op.floatArith, h', go_sem]

/-- What Div tells. -/
def fdiv (a b : Int) : Int := fr (Ieee.double.div a.toNat b.toNat)

/-- What Sqrt tells. -/
def fsqrt (a : Int) : Int := fr (Ieee.double.sqrt a.toNat)

/-- What Neg tells. -/
def fneg (a : Int) : Int := fbits (Op.negFloat .f64 a.toNat)

theorem Canon_any (a : Int) (w : World) : Calls Try.prog 20 #[.int .u64 a] w fun e w' => e = .returned (.int .u64 (fbits a.toNat)) ∧ w = w' := by
  go_enter Try.func20, Try.ntmps20
  go_wp2_with (go_at_call 46; refine (bits_any _ _).mono ?_; rintro e w' ⟨rfl, rfl⟩)
  go_ret
  exact ⟨rfl, rfl⟩

theorem Right_any (a : Int) (w : World) : Calls Try.prog 22 #[.int .u64 a] w fun e w' => e = .returned (.bool (fbits a.toNat == a)) ∧ w = w' := by
  go_enter Try.func22, Try.ntmps22
  go_wp2_with (go_at_call 20; refine (Canon_any _ _).mono ?_; rintro e w' ⟨rfl, rfl⟩)
  go_ret
  exact ⟨rfl, rfl⟩

/-- What Of tells. -/
def fof (n : Int) : Int := fbits (floatOfInt .f64 n)
/-- What Less, Same tell. -/
def fless (a b : Int) : Bool := FloatKind.f64.format.order a.toNat b.toNat == some .lt
def fsame (a b : Int) : Bool := FloatKind.f64.format.order a.toNat b.toNat == some .eq
theorem Same_any (a b : Int) (w : World) : Calls Try.prog 24 #[.int .u64 a, .int .u64 b] w fun e w' => e = .returned (.bool (fsame a b)) ∧ w = w' := by
  go_enter Try.func24, Try.ntmps24
  go_wp2
  go_ret
  exact ⟨rfl, rfl⟩
end Go.Proofs.Ytipgpnkdgofdeaa.Fl
