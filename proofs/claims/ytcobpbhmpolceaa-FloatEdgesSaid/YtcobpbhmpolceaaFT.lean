import Derived.Test.YtcobpbhmpolceaaFA
import Derived.Test.YtcobpbhmpolceaaFR
import Derived.Laws.FloatArith
namespace Go.Proofs.Ytcobpbhmpolceaa
open Go.RowKit

theorem fbits_ok {r : Nat} (h : rg r ≤ rinf) : fbits r = r := by unfold fbits; rw [if_pos]; exact order_self.2 h
theorem fbits_nan {r : Nat} (h : rinf < rg r) : fbits r = 9221120237041090560 := by unfold fbits; rw [if_neg]; rw [show FloatKind.f64.format = Ieee.double from rfl, order_self]; omega

theorem write_ok (d : Ieee.Datum) (h : d.isNaN = false) : rg (Ieee.double.write d) ≤ rinf := by
  cases d with
  | nan => cases h
  | infinity s => show rg (Ieee.double.word s rinf) ≤ rinf; rw [rg_word _ (by decide)]; exact Nat.le_refl _
  | number s m p =>
    show rg (Ieee.double.nearest s m p) ≤ rinf
    unfold Ieee.Format.nearest
    dsimp only
    split
    · rw [rg_word _ (by decide)]; exact Nat.zero_le _
    · rw [rg_word]
      · exact Nat.min_le_right _ _
      · exact Nat.lt_of_le_of_lt (Nat.min_le_right _ _) (by decide)

theorem nan_cut (x y t : Nat) : rinf < rg ((Question.nanBits .f64 x y).cut t) := by
  show rinf < rg ((t % 2) * 2 ^ 63 + 0x7ff0000000000000 + 1 + (t / 2) % (2 ^ 52 - 1))
  unfold rg rinf
  have h1 : (t / 2) % (2 ^ 52 - 1) < 4503599627370495 := Nat.mod_lt _ (by decide)
  generalize (t / 2) % (2 ^ 52 - 1) = x at *
  rcases (by omega : t % 2 = 0 ∨ t % 2 = 1) with h | h <;> rw [h] <;> omega

theorem sum_nan {x y : Ieee.Datum} {r : Ieee.Datum} (h : x.sum y = some r) : r.isNaN = false := by
  unfold Ieee.Datum.sum at h
  split at h <;> (try split at h) <;> first | (cases h; done) | (cases h; rfl)
theorem product_nan {x y : Ieee.Datum} {r : Ieee.Datum} (h : x.product y = some r) : r.isNaN = false := by
  unfold Ieee.Datum.product at h
  split at h <;> (try split at h) <;> first | (cases h; done) | (cases h; rfl)
theorem quotient_nan {n : Nat} {x y : Ieee.Datum} {r : Ieee.Datum} (h : x.quotient n y = some r) : r.isNaN = false := by
  unfold Ieee.Datum.quotient at h
  split at h <;> (try split at h) <;> (try split at h) <;> first | (cases h; done) | (cases h; rfl)
theorem root_nan {n : Nat} {x : Ieee.Datum} {r : Ieee.Datum} (h : x.root n = some r) : r.isNaN = false := by
  unfold Ieee.Datum.root at h
  split at h <;> (try split at h) <;> (try split at h) <;> first | (cases h; done) | (cases h; rfl)
theorem map_ok {o : Option Ieee.Datum} {r : Nat} (h : o.map Ieee.double.write = some r) (hn : ∀ d, o = some d → d.isNaN = false) : rg r ≤ rinf := by
  cases o with
  | none => cases h
  | some d => simp at h; subst h; exact write_ok d (hn d rfl)
theorem add_ok {x y r : Nat} (h : Ieee.double.add x y = some r) : rg r ≤ rinf := map_ok h fun _ => sum_nan
theorem sub_ok {x y r : Nat} (h : Ieee.double.sub x y = some r) : rg r ≤ rinf := map_ok h fun _ => sum_nan
theorem mul_ok {x y r : Nat} (h : Ieee.double.mul x y = some r) : rg r ≤ rinf := map_ok h fun _ => product_nan
theorem div_ok {x y r : Nat} (h : Ieee.double.div x y = some r) : rg r ≤ rinf := map_ok h fun _ => quotient_nan
theorem sqrt_ok {x r : Nat} (h : Ieee.double.sqrt x = some r) : rg r ≤ rinf := map_ok h fun _ => root_nan

/-- What a sum, a difference, .. comes to: every NaN as one. -/
def fr (o : Option Nat) : Int := match o with | some r => (r : Int) | none => 9221120237041090560

theorem add_none_run (w : World) (t : TypeId) (x y : Nat) (h : Ieee.double.add x y = none) : (binOp .add t (.float .f64 x) (.float .f64 y)).run Try.prog w = .ok (.float .f64 ((Question.nanBits .f64 x y).cut (w.tape w.drawn (.nanBits .f64 x y)))) w.drew := by
  have h' : FloatKind.f64.format.add x y = none := h
  simp [binOp, Op.floatArith, h', go_sem]

theorem add_clo_some (a b : Int) (r : Nat) (h : Ieee.double.add a.toNat b.toNat = some r) (g cap : Nat) (w : World) (h0 : w.cell? ⟨g, 0, none⟩ = some (.float .f64 a.toNat)) (h1 : w.cell? ⟨g, 1, none⟩ = some (.float .f64 b.toNat)) :
    Calls Try.prog 40 #[.slice (some ⟨g, 0, none⟩) 2 cap] w fun e w' => e = .returned (.float .f64 r) ∧ Qt w w' := by
  have H := fun w' => run_float_arith (P := Try.prog) w' .add 38 .f64 a.toNat b.toNat r h
  go_enter Try.func40, Try.ntmps40
  go_wp2
  go_region
  all_goals (go_wp2)
  all_goals (go_ret; exact ⟨rfl, (Below.refl _ _).drew⟩)
theorem add_clo_none (a b : Int) (h : Ieee.double.add a.toNat b.toNat = none) (g cap : Nat) (w : World) (h0 : w.cell? ⟨g, 0, none⟩ = some (.float .f64 a.toNat)) (h1 : w.cell? ⟨g, 1, none⟩ = some (.float .f64 b.toNat)) :
    Calls Try.prog 40 #[.slice (some ⟨g, 0, none⟩) 2 cap] w fun e w' => ∃ r, e = .returned (.float .f64 r) ∧ rinf < rg r ∧ Qt w w' := by
  have H := fun w' => add_none_run w' 38 a.toNat b.toNat h
  go_enter Try.func40, Try.ntmps40
  go_wp2
  go_region
  all_goals (go_wp2)
  all_goals (go_ret; exact ⟨_, rfl, nan_cut _ _ _, (Below.refl _ _).drew.drew⟩)

/-- What Add tells. -/
def fadd (a b : Int) : Int := fr (Ieee.double.add a.toNat b.toNat)

theorem add_clo (a b : Int) : Clo 40 [a, b] (fadd a b) := by
  intro g cap w hc
  have h0 : w.cell? ⟨g, 0, none⟩ = some (.float .f64 a.toNat) := hc 0 (by simp)
  have h1 : w.cell? ⟨g, 1, none⟩ = some (.float .f64 b.toNat) := hc 1 (by simp)
  unfold fadd
  cases h : Ieee.double.add a.toNat b.toNat with
  | some r => exact (add_clo_some a b r h g cap w h0 h1).mono fun e w' ⟨he, hq⟩ => ⟨r, he, fbits_ok (add_ok h), hq⟩
  | none => exact (add_clo_none a b h g cap w h0 h1).mono fun e w' ⟨r, he, hr, hq⟩ => ⟨r, he, fbits_nan hr, hq⟩

theorem Add_any (a b : Int) (w : World) : Calls Try.prog 13 #[.int .u64 a, .int .u64 b] w fun e w' => e = .returned (.int .u64 (fadd a b)) ∧ Qt w w' := by
  have hk : ∀ args w, (callFunc 40 args).run Try.prog w = .ok (.enter 40 args) w := fun args w => by kernel_rfl
  have H := Lib.hid hk; clear hk
  go_enter Try.func13, Try.ntmps13
  go_wp2_with (go_at_call 39; refine (of_any 40 H.out [a, b] (fadd a b) (add_clo a b) (by simp) (by simp) w.heap.size _ (by simp) ?_ 2).mono ?_)
  · intro j hj
    match j, hj with
    | 0, _ => simp [go_sem]
    | 1, _ => simp [go_sem]
  · rintro e w' ⟨rfl, hq⟩
    go_wp2
    go_ret
    exact ⟨rfl, Below.trans ((Below.refl _ _).alloc (Nat.le_refl _) _) (Below.mono hq (by simp))⟩

theorem sub_none_run (w : World) (t : TypeId) (x y : Nat) (h : Ieee.double.sub x y = none) : (binOp .sub t (.float .f64 x) (.float .f64 y)).run Try.prog w = .ok (.float .f64 ((Question.nanBits .f64 x y).cut (w.tape w.drawn (.nanBits .f64 x y)))) w.drew := by
  have h' : FloatKind.f64.format.sub x y = none := h
  simp [binOp, Op.floatArith, h', go_sem]

theorem sub_clo_some (a b : Int) (r : Nat) (h : Ieee.double.sub a.toNat b.toNat = some r) (g cap : Nat) (w : World) (h0 : w.cell? ⟨g, 0, none⟩ = some (.float .f64 a.toNat)) (h1 : w.cell? ⟨g, 1, none⟩ = some (.float .f64 b.toNat)) :
    Calls Try.prog 46 #[.slice (some ⟨g, 0, none⟩) 2 cap] w fun e w' => e = .returned (.float .f64 r) ∧ Qt w w' := by
  have H := fun w' => run_float_arith (P := Try.prog) w' .sub 38 .f64 a.toNat b.toNat r h
  go_enter Try.func46, Try.ntmps46
  go_wp2
  go_region
  all_goals (go_wp2)
  all_goals (go_ret; exact ⟨rfl, (Below.refl _ _).drew⟩)
theorem sub_clo_none (a b : Int) (h : Ieee.double.sub a.toNat b.toNat = none) (g cap : Nat) (w : World) (h0 : w.cell? ⟨g, 0, none⟩ = some (.float .f64 a.toNat)) (h1 : w.cell? ⟨g, 1, none⟩ = some (.float .f64 b.toNat)) :
    Calls Try.prog 46 #[.slice (some ⟨g, 0, none⟩) 2 cap] w fun e w' => ∃ r, e = .returned (.float .f64 r) ∧ rinf < rg r ∧ Qt w w' := by
  have H := fun w' => sub_none_run w' 38 a.toNat b.toNat h
  go_enter Try.func46, Try.ntmps46
  go_wp2
  go_region
  all_goals (go_wp2)
  all_goals (go_ret; exact ⟨_, rfl, nan_cut _ _ _, (Below.refl _ _).drew.drew⟩)

/-- What Sub tells. -/
def fsub (a b : Int) : Int := fr (Ieee.double.sub a.toNat b.toNat)

theorem sub_clo (a b : Int) : Clo 46 [a, b] (fsub a b) := by
  intro g cap w hc
  have h0 : w.cell? ⟨g, 0, none⟩ = some (.float .f64 a.toNat) := hc 0 (by simp)
  have h1 : w.cell? ⟨g, 1, none⟩ = some (.float .f64 b.toNat) := hc 1 (by simp)
  unfold fsub
  cases h : Ieee.double.sub a.toNat b.toNat with
  | some r => exact (sub_clo_some a b r h g cap w h0 h1).mono fun e w' ⟨he, hq⟩ => ⟨r, he, fbits_ok (sub_ok h), hq⟩
  | none => exact (sub_clo_none a b h g cap w h0 h1).mono fun e w' ⟨r, he, hr, hq⟩ => ⟨r, he, fbits_nan hr, hq⟩

theorem Sub_any (a b : Int) (w : World) : Calls Try.prog 18 #[.int .u64 a, .int .u64 b] w fun e w' => e = .returned (.int .u64 (fsub a b)) ∧ Qt w w' := by
  have hk : ∀ args w, (callFunc 46 args).run Try.prog w = .ok (.enter 46 args) w := fun args w => by kernel_rfl
  have H := Lib.hid hk; clear hk
  go_enter Try.func18, Try.ntmps18
  go_wp2_with (go_at_call 39; refine (of_any 46 H.out [a, b] (fsub a b) (sub_clo a b) (by simp) (by simp) w.heap.size _ (by simp) ?_ 2).mono ?_)
  · intro j hj
    match j, hj with
    | 0, _ => simp [go_sem]
    | 1, _ => simp [go_sem]
  · rintro e w' ⟨rfl, hq⟩
    go_wp2
    go_ret
    exact ⟨rfl, Below.trans ((Below.refl _ _).alloc (Nat.le_refl _) _) (Below.mono hq (by simp))⟩

theorem mul_none_run (w : World) (t : TypeId) (x y : Nat) (h : Ieee.double.mul x y = none) : (binOp .mul t (.float .f64 x) (.float .f64 y)).run Try.prog w = .ok (.float .f64 ((Question.nanBits .f64 x y).cut (w.tape w.drawn (.nanBits .f64 x y)))) w.drew := by
  have h' : FloatKind.f64.format.mul x y = none := h
  simp [binOp, Op.floatArith, h', go_sem]

theorem mul_clo_some (a b : Int) (r : Nat) (h : Ieee.double.mul a.toNat b.toNat = some r) (g cap : Nat) (w : World) (h0 : w.cell? ⟨g, 0, none⟩ = some (.float .f64 a.toNat)) (h1 : w.cell? ⟨g, 1, none⟩ = some (.float .f64 b.toNat)) :
    Calls Try.prog 43 #[.slice (some ⟨g, 0, none⟩) 2 cap] w fun e w' => e = .returned (.float .f64 r) ∧ Qt w w' := by
  have H := fun w' => run_float_arith (P := Try.prog) w' .mul 38 .f64 a.toNat b.toNat r h
  go_enter Try.func43, Try.ntmps43
  go_wp2
  go_region
  all_goals (go_wp2)
  all_goals (go_ret; exact ⟨rfl, (Below.refl _ _).drew⟩)
theorem mul_clo_none (a b : Int) (h : Ieee.double.mul a.toNat b.toNat = none) (g cap : Nat) (w : World) (h0 : w.cell? ⟨g, 0, none⟩ = some (.float .f64 a.toNat)) (h1 : w.cell? ⟨g, 1, none⟩ = some (.float .f64 b.toNat)) :
    Calls Try.prog 43 #[.slice (some ⟨g, 0, none⟩) 2 cap] w fun e w' => ∃ r, e = .returned (.float .f64 r) ∧ rinf < rg r ∧ Qt w w' := by
  have H := fun w' => mul_none_run w' 38 a.toNat b.toNat h
  go_enter Try.func43, Try.ntmps43
  go_wp2
  go_region
  all_goals (go_wp2)
  all_goals (go_ret; exact ⟨_, rfl, nan_cut _ _ _, (Below.refl _ _).drew.drew⟩)

/-- What Mul tells. -/
def fmul (a b : Int) : Int := fr (Ieee.double.mul a.toNat b.toNat)

theorem mul_clo (a b : Int) : Clo 43 [a, b] (fmul a b) := by
  intro g cap w hc
  have h0 : w.cell? ⟨g, 0, none⟩ = some (.float .f64 a.toNat) := hc 0 (by simp)
  have h1 : w.cell? ⟨g, 1, none⟩ = some (.float .f64 b.toNat) := hc 1 (by simp)
  unfold fmul
  cases h : Ieee.double.mul a.toNat b.toNat with
  | some r => exact (mul_clo_some a b r h g cap w h0 h1).mono fun e w' ⟨he, hq⟩ => ⟨r, he, fbits_ok (mul_ok h), hq⟩
  | none => exact (mul_clo_none a b h g cap w h0 h1).mono fun e w' ⟨r, he, hr, hq⟩ => ⟨r, he, fbits_nan hr, hq⟩

theorem Mul_any (a b : Int) (w : World) : Calls Try.prog 16 #[.int .u64 a, .int .u64 b] w fun e w' => e = .returned (.int .u64 (fmul a b)) ∧ Qt w w' := by
  have hk : ∀ args w, (callFunc 43 args).run Try.prog w = .ok (.enter 43 args) w := fun args w => by kernel_rfl
  have H := Lib.hid hk; clear hk
  go_enter Try.func16, Try.ntmps16
  go_wp2_with (go_at_call 39; refine (of_any 43 H.out [a, b] (fmul a b) (mul_clo a b) (by simp) (by simp) w.heap.size _ (by simp) ?_ 2).mono ?_)
  · intro j hj
    match j, hj with
    | 0, _ => simp [go_sem]
    | 1, _ => simp [go_sem]
  · rintro e w' ⟨rfl, hq⟩
    go_wp2
    go_ret
    exact ⟨rfl, Below.trans ((Below.refl _ _).alloc (Nat.le_refl _) _) (Below.mono hq (by simp))⟩

theorem div_none_run (w : World) (t : TypeId) (x y : Nat) (h : Ieee.double.div x y = none) : (binOp .quo t (.float .f64 x) (.float .f64 y)).run Try.prog w = .ok (.float .f64 ((Question.nanBits .f64 x y).cut (w.tape w.drawn (.nanBits .f64 x y)))) w.drew := by
  have h' : FloatKind.f64.format.div x y = none := h
  simp [binOp, Op.floatArith, h', go_sem]

theorem div_clo_some (a b : Int) (r : Nat) (h : Ieee.double.div a.toNat b.toNat = some r) (g cap : Nat) (w : World) (h0 : w.cell? ⟨g, 0, none⟩ = some (.float .f64 a.toNat)) (h1 : w.cell? ⟨g, 1, none⟩ = some (.float .f64 b.toNat)) :
    Calls Try.prog 47 #[.slice (some ⟨g, 0, none⟩) 2 cap] w fun e w' => e = .returned (.float .f64 r) ∧ Qt w w' := by
  have H := fun w' => run_float_arith (P := Try.prog) w' .quo 38 .f64 a.toNat b.toNat r h
  go_enter Try.func47, Try.ntmps47
  go_wp2
  go_region
  all_goals (go_wp2)
  all_goals (go_ret; exact ⟨rfl, (Below.refl _ _).drew⟩)
theorem div_clo_none (a b : Int) (h : Ieee.double.div a.toNat b.toNat = none) (g cap : Nat) (w : World) (h0 : w.cell? ⟨g, 0, none⟩ = some (.float .f64 a.toNat)) (h1 : w.cell? ⟨g, 1, none⟩ = some (.float .f64 b.toNat)) :
    Calls Try.prog 47 #[.slice (some ⟨g, 0, none⟩) 2 cap] w fun e w' => ∃ r, e = .returned (.float .f64 r) ∧ rinf < rg r ∧ Qt w w' := by
  have H := fun w' => div_none_run w' 38 a.toNat b.toNat h
  go_enter Try.func47, Try.ntmps47
  go_wp2
  go_region
  all_goals (go_wp2)
  all_goals (go_ret; exact ⟨_, rfl, nan_cut _ _ _, (Below.refl _ _).drew.drew⟩)

/-- What Div tells. -/
def fdiv (a b : Int) : Int := fr (Ieee.double.div a.toNat b.toNat)

theorem div_clo (a b : Int) : Clo 47 [a, b] (fdiv a b) := by
  intro g cap w hc
  have h0 : w.cell? ⟨g, 0, none⟩ = some (.float .f64 a.toNat) := hc 0 (by simp)
  have h1 : w.cell? ⟨g, 1, none⟩ = some (.float .f64 b.toNat) := hc 1 (by simp)
  unfold fdiv
  cases h : Ieee.double.div a.toNat b.toNat with
  | some r => exact (div_clo_some a b r h g cap w h0 h1).mono fun e w' ⟨he, hq⟩ => ⟨r, he, fbits_ok (div_ok h), hq⟩
  | none => exact (div_clo_none a b h g cap w h0 h1).mono fun e w' ⟨r, he, hr, hq⟩ => ⟨r, he, fbits_nan hr, hq⟩

theorem Div_any (a b : Int) (w : World) : Calls Try.prog 19 #[.int .u64 a, .int .u64 b] w fun e w' => e = .returned (.int .u64 (fdiv a b)) ∧ Qt w w' := by
  have hk : ∀ args w, (callFunc 47 args).run Try.prog w = .ok (.enter 47 args) w := fun args w => by kernel_rfl
  have H := Lib.hid hk; clear hk
  go_enter Try.func19, Try.ntmps19
  go_wp2_with (go_at_call 39; refine (of_any 47 H.out [a, b] (fdiv a b) (div_clo a b) (by simp) (by simp) w.heap.size _ (by simp) ?_ 2).mono ?_)
  · intro j hj
    match j, hj with
    | 0, _ => simp [go_sem]
    | 1, _ => simp [go_sem]
  · rintro e w' ⟨rfl, hq⟩
    go_wp2
    go_ret
    exact ⟨rfl, Below.trans ((Below.refl _ _).alloc (Nat.le_refl _) _) (Below.mono hq (by simp))⟩

@[go_sem] theorem sqrt_call_some (w : World) (x r : Nat) (h : Ieee.double.sqrt x = some r) : (callFunc 64 #[.float .f64 x]).run Try.prog w = .ok (.value (.float .f64 r)) w := by
  have e : (callFunc 64 #[.float .f64 x]).run Try.prog w = ((match FloatKind.f64.format.sqrt x with | some r => (pure (Value.float .f64 r) : Sem Value) | none => do pure (Value.float .f64 (← choose (.nanBits .f64 x x)))) >>= fun v => pure (Next.value v)).run Try.prog w := by kernel_rfl
  have h' : FloatKind.f64.format.sqrt x = some r := h
  rw [e]; simp [h']
theorem sqrt_call_none (w : World) (x : Nat) (h : Ieee.double.sqrt x = none) : (callFunc 64 #[.float .f64 x]).run Try.prog w = .ok (.value (.float .f64 ((Question.nanBits .f64 x x).cut (w.tape w.drawn (.nanBits .f64 x x))))) w.drew := by
  have e : (callFunc 64 #[.float .f64 x]).run Try.prog w = ((match FloatKind.f64.format.sqrt x with | some r => (pure (Value.float .f64 r) : Sem Value) | none => do pure (Value.float .f64 (← choose (.nanBits .f64 x x)))) >>= fun v => pure (Next.value v)).run Try.prog w := by kernel_rfl
  have h' : FloatKind.f64.format.sqrt x = none := h
  rw [e]; simp [h', go_sem]

/-- What Sqrt tells. -/
def fsqrt (a : Int) : Int := fr (Ieee.double.sqrt a.toNat)

theorem sqrt_clo (a : Int) : Clo 44 [a] (fsqrt a) := by
  intro g cap w hc
  have h0 : w.cell? ⟨g, 0, none⟩ = some (.float .f64 a.toNat) := hc 0 (by simp)
  clear hc
  simp only [List.length_cons, List.length_nil, Nat.zero_add]
  unfold fsqrt
  cases h : Ieee.double.sqrt a.toNat with
  | some r =>
    have H := fun w' => sqrt_call_some w' a.toNat r h
    go_enter Try.func44, Try.ntmps44
    go_wp2
    go_ret
    exact ⟨r, rfl, fbits_ok (sqrt_ok h), Below.refl _ _⟩
  | none =>
    have H := fun w' => sqrt_call_none w' a.toNat h
    go_enter Try.func44, Try.ntmps44
    go_wp2
    go_ret
    exact ⟨_, rfl, fbits_nan (nan_cut _ _ _), (Below.refl _ _).drew⟩

/-- What Neg tells. -/
def fneg (a : Int) : Int := fbits (Op.negFloat .f64 a.toNat)

theorem neg_clo (a : Int) : Clo 48 [a] (fneg a) := by
  intro g cap w hc
  have h0 : w.cell? ⟨g, 0, none⟩ = some (.float .f64 a.toNat) := hc 0 (by simp)
  clear hc
  simp only [List.length_cons, List.length_nil, Nat.zero_add]
  have H : ∀ w, (Op.unary .neg (.float .f64 a.toNat)).run Try.prog w = .ok (.float .f64 (Op.negFloat .f64 a.toNat)) w := fun _ => rfl
  go_enter Try.func48, Try.ntmps48
  go_wp2
  go_ret
  exact ⟨_, rfl, rfl, Below.refl _ _⟩

theorem Sqrt_any (a : Int) (w : World) : Calls Try.prog 17 #[.int .u64 a] w fun e w' => e = .returned (.int .u64 (fsqrt a)) ∧ Qt w w' := by
  have hk : ∀ args w, (callFunc 44 args).run Try.prog w = .ok (.enter 44 args) w := fun args w => by kernel_rfl
  have H := Lib.hid hk; clear hk
  go_enter Try.func17, Try.ntmps17
  go_wp2_with (go_at_call 39; refine (of_any 44 H.out [a] (fsqrt a) (sqrt_clo a) (by simp) (by simp) w.heap.size _ (by simp) ?_ 1).mono ?_)
  · intro j hj
    match j, hj with
    | 0, _ => simp [go_sem]
  · rintro e w' ⟨rfl, hq⟩
    go_wp2
    go_ret
    exact ⟨rfl, Below.trans ((Below.refl _ _).alloc (Nat.le_refl _) _) (Below.mono hq (by simp))⟩

theorem Neg_any (a : Int) (w : World) : Calls Try.prog 20 #[.int .u64 a] w fun e w' => e = .returned (.int .u64 (fneg a)) ∧ Qt w w' := by
  have hk : ∀ args w, (callFunc 48 args).run Try.prog w = .ok (.enter 48 args) w := fun args w => by kernel_rfl
  have H := Lib.hid hk; clear hk
  go_enter Try.func20, Try.ntmps20
  go_wp2_with (go_at_call 39; refine (of_any 48 H.out [a] (fneg a) (neg_clo a) (by simp) (by simp) w.heap.size _ (by simp) ?_ 1).mono ?_)
  · intro j hj
    match j, hj with
    | 0, _ => simp [go_sem]
  · rintro e w' ⟨rfl, hq⟩
    go_wp2
    go_ret
    exact ⟨rfl, Below.trans ((Below.refl _ _).alloc (Nat.le_refl _) _) (Below.mono hq (by simp))⟩

theorem Canon_any (a : Int) (w : World) : Calls Try.prog 10 #[.int .u64 a] w fun e w' => e = .returned (.int .u64 (fbits a.toNat)) ∧ w = w' := by
  go_enter Try.func10, Try.ntmps10
  go_wp2_with (go_at_call 38; refine (bits_any _ _).mono ?_; rintro e w' ⟨rfl, rfl⟩)
  go_ret
  exact ⟨rfl, rfl⟩

theorem Right_any (a : Int) (w : World) : Calls Try.prog 21 #[.int .u64 a] w fun e w' => e = .returned (.bool (fbits a.toNat == a)) ∧ w = w' := by
  go_enter Try.func21, Try.ntmps21
  go_wp2_with (go_at_call 10; refine (Canon_any _ _).mono ?_; rintro e w' ⟨rfl, rfl⟩)
  go_ret
  exact ⟨rfl, rfl⟩

/-- What Of tells. -/
def fof (n : Int) : Int := fbits (floatOfInt .f64 n)
theorem Of_any (n : Int) (w : World) : Calls Try.prog 14 #[.int .i64 n] w fun e w' => e = .returned (.int .u64 (fof n)) ∧ w = w' := by
  go_enter Try.func14, Try.ntmps14
  go_wp2_with (go_at_call 38; refine (bits_any _ _).mono ?_; rintro e w' ⟨rfl, rfl⟩)
  go_ret
  exact ⟨rfl, rfl⟩

/-- What Less, Same tell. -/
def fless (a b : Int) : Bool := FloatKind.f64.format.order a.toNat b.toNat == some .lt
def fsame (a b : Int) : Bool := FloatKind.f64.format.order a.toNat b.toNat == some .eq
theorem Less_any (a b : Int) (w : World) : Calls Try.prog 11 #[.int .u64 a, .int .u64 b] w fun e w' => e = .returned (.bool (fless a b)) ∧ w = w' := by
  go_enter Try.func11, Try.ntmps11
  go_wp2
  go_ret
  exact ⟨rfl, rfl⟩
theorem Same_any (a b : Int) (w : World) : Calls Try.prog 12 #[.int .u64 a, .int .u64 b] w fun e w' => e = .returned (.bool (fsame a b)) ∧ w = w' := by
  go_enter Try.func12, Try.ntmps12
  go_wp2
  go_ret
  exact ⟨rfl, rfl⟩
end Go.Proofs.Ytcobpbhmpolceaa
