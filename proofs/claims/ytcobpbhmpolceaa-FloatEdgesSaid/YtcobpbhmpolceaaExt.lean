import Derived.Test.YtcobpbhmpolceaaFT
import Derived.Test.YtcobpbhmpolceaaFU
import Derived.Test.YtcobpbhmpolceaaFI
import Derived.Test.YtcobpbhmpolceaaY
import Derived.Test.YtcobpbhmpolceaaWWords
import Derived.Shelf.Spec.BitsCarry
/-! What the print is told from outside: the contracts of functions over floats, and of those that the model stands in for. -/
namespace Go.Proofs.Ytcobpbhmpolceaa.Ext
open Go.RowKit Go.Proofs.YtcobpbhmpolceaaW.PrintWords
set_option linter.unusedVariables false
set_option linter.unusedSimpArgs false

def float_Right.f (a0 : Int) : Option (Bool) := some (fbits a0.toNat == a0)
theorem float_Right.calls (a0 : Int) (r : Bool) (w : World) (h : float_Right.f a0 = some r) :
    Calls Try.prog 21 #[.int .u64 a0] w fun e w' => e = .returned (.bool r) ∧ Drawn0 w w' := by
  obtain rfl := Option.some.inj h
  exact (Right_any a0 w).mono fun e w' ⟨h1, h2⟩ => ⟨h1, h2 ▸ Drawn0.refl w⟩
def float_Canon.f (a0 : Int) : Option (Int) := some (fbits a0.toNat)
theorem float_Canon.calls (a0 : Int) (r : Int) (w : World) (h : float_Canon.f a0 = some r) :
    Calls Try.prog 10 #[.int .u64 a0] w fun e w' => e = .returned (.int .u64 r) ∧ Drawn0 w w' := by
  obtain rfl := Option.some.inj h
  exact (Canon_any a0 w).mono fun e w' ⟨h1, h2⟩ => ⟨h1, h2 ▸ Drawn0.refl w⟩
def float_Neg.f (a0 : Int) : Option (Int) := some (fneg a0)
theorem float_Neg.calls (a0 : Int) (r : Int) (w : World) (h : float_Neg.f a0 = some r) :
    Calls Try.prog 20 #[.int .u64 a0] w fun e w' => e = .returned (.int .u64 r) ∧ Below w.heap.size w w' := by
  obtain rfl := Option.some.inj h
  exact (Neg_any a0 w).mono fun e w' ⟨h1, h2⟩ => ⟨h1, h2⟩
def float_Sqrt.f (a0 : Int) : Option (Int) := some (fsqrt a0)
theorem float_Sqrt.calls (a0 : Int) (r : Int) (w : World) (h : float_Sqrt.f a0 = some r) :
    Calls Try.prog 17 #[.int .u64 a0] w fun e w' => e = .returned (.int .u64 r) ∧ Below w.heap.size w w' := by
  obtain rfl := Option.some.inj h
  exact (Sqrt_any a0 w).mono fun e w' ⟨h1, h2⟩ => ⟨h1, h2⟩
def float_Add.f (a0 : Int) (a1 : Int) : Option (Int) := some (fadd a0 a1)
theorem float_Add.calls (a0 : Int) (a1 : Int) (r : Int) (w : World) (h : float_Add.f a0 a1 = some r) :
    Calls Try.prog 13 #[.int .u64 a0, .int .u64 a1] w fun e w' => e = .returned (.int .u64 r) ∧ Below w.heap.size w w' := by
  obtain rfl := Option.some.inj h
  exact (Add_any a0 a1 w).mono fun e w' ⟨h1, h2⟩ => ⟨h1, h2⟩
def float_Sub.f (a0 : Int) (a1 : Int) : Option (Int) := some (fsub a0 a1)
theorem float_Sub.calls (a0 : Int) (a1 : Int) (r : Int) (w : World) (h : float_Sub.f a0 a1 = some r) :
    Calls Try.prog 18 #[.int .u64 a0, .int .u64 a1] w fun e w' => e = .returned (.int .u64 r) ∧ Below w.heap.size w w' := by
  obtain rfl := Option.some.inj h
  exact (Sub_any a0 a1 w).mono fun e w' ⟨h1, h2⟩ => ⟨h1, h2⟩
def float_Mul.f (a0 : Int) (a1 : Int) : Option (Int) := some (fmul a0 a1)
theorem float_Mul.calls (a0 : Int) (a1 : Int) (r : Int) (w : World) (h : float_Mul.f a0 a1 = some r) :
    Calls Try.prog 16 #[.int .u64 a0, .int .u64 a1] w fun e w' => e = .returned (.int .u64 r) ∧ Below w.heap.size w w' := by
  obtain rfl := Option.some.inj h
  exact (Mul_any a0 a1 w).mono fun e w' ⟨h1, h2⟩ => ⟨h1, h2⟩
def float_Div.f (a0 : Int) (a1 : Int) : Option (Int) := some (fdiv a0 a1)
theorem float_Div.calls (a0 : Int) (a1 : Int) (r : Int) (w : World) (h : float_Div.f a0 a1 = some r) :
    Calls Try.prog 19 #[.int .u64 a0, .int .u64 a1] w fun e w' => e = .returned (.int .u64 r) ∧ Below w.heap.size w w' := by
  obtain rfl := Option.some.inj h
  exact (Div_any a0 a1 w).mono fun e w' ⟨h1, h2⟩ => ⟨h1, h2⟩
def float_Less.f (a0 : Int) (a1 : Int) : Option (Bool) := some (fless a0 a1)
theorem float_Less.calls (a0 : Int) (a1 : Int) (r : Bool) (w : World) (h : float_Less.f a0 a1 = some r) :
    Calls Try.prog 11 #[.int .u64 a0, .int .u64 a1] w fun e w' => e = .returned (.bool r) ∧ Drawn0 w w' := by
  obtain rfl := Option.some.inj h
  exact (Less_any a0 a1 w).mono fun e w' ⟨h1, h2⟩ => ⟨h1, h2 ▸ Drawn0.refl w⟩
def float_Same.f (a0 : Int) (a1 : Int) : Option (Bool) := some (fsame a0 a1)
theorem float_Same.calls (a0 : Int) (a1 : Int) (r : Bool) (w : World) (h : float_Same.f a0 a1 = some r) :
    Calls Try.prog 12 #[.int .u64 a0, .int .u64 a1] w fun e w' => e = .returned (.bool r) ∧ Drawn0 w w' := by
  obtain rfl := Option.some.inj h
  exact (Same_any a0 a1 w).mono fun e w' ⟨h1, h2⟩ => ⟨h1, h2 ▸ Drawn0.refl w⟩
def float_Order.f (a0 : Int) (a1 : Int) : Option (Int) := some (ford a0 a1)
theorem float_Order.calls (a0 : Int) (a1 : Int) (r : Int) (w : World) (h : float_Order.f a0 a1 = some r) :
    Calls Try.prog 9 #[.int .u64 a0, .int .u64 a1] w fun e w' => e = .returned (.int .i64 r) ∧ Drawn0 w w' := by
  obtain rfl := Option.some.inj h
  exact (Order_any a0 a1 w).mono fun e w' ⟨h1, h2⟩ => ⟨h1, h2 ▸ Drawn0.refl w⟩
def float_Of.f (a0 : Int) : Option (Int) := some (fof a0)
theorem float_Of.calls (a0 : Int) (r : Int) (w : World) (h : float_Of.f a0 = some r) :
    Calls Try.prog 14 #[.int .i64 a0] w fun e w' => e = .returned (.int .u64 r) ∧ Drawn0 w w' := by
  obtain rfl := Option.some.inj h
  exact (Of_any a0 w).mono fun e w' ⟨h1, h2⟩ => ⟨h1, h2 ▸ Drawn0.refl w⟩
def float_Int.f (a0 : Int) : Option (Int × Bool) := some ((fint a0).getD 0, (fint a0).isSome)
theorem float_Int.calls (a0 : Int) (r1 : Int) (r2 : Bool) (w : World) (h : float_Int.f a0 = some (r1, r2)) :
    Calls Try.prog 15 #[.int .u64 a0] w fun e w' => e = .returned (.tuple #[.int .i64 r1, .bool r2]) ∧ Below w.heap.size w w' := by
  obtain ⟨rfl, rfl⟩ := Prod.mk.inj (Option.some.inj h)
  exact (Int_any a0 w).mono fun e w' ⟨h1, h2⟩ => ⟨h1, h2⟩

def bits_Len64.f (a0 : Int) : Option Int := if 0 ≤ a0 ∧ a0 ≤ 18446744073709551615 then some (Lib.bitLen a0.toNat : Int) else none
theorem bits_Len64.calls (a0 : Int) (r : Int) (w : World) (h : bits_Len64.f a0 = some r) :
    Calls Try.prog 65 #[.int .u64 a0] w fun e w' => e = .returned (.int .i64 r) ∧ Drawn0 w w' := by
  unfold bits_Len64.f at h
  split at h
  · rename_i hc
    obtain rfl := Option.some.inj h
    exact (Try.bits_Len64 a0 w hc.1 hc.2).mono fun e w' ⟨h1, h2⟩ => ⟨h1, h2 ▸ Drawn0.refl w⟩
  · cases h

/-- A call that the model answers at once. -/
theorem goesX_ {P : Program} {ops : Array Oper} {Q : Exit → Act → World → Prop} {rest : List Oper} {oi : Oper} {a : Act} {w : World} (N : Option Tmp) (hd : oi.dst = N) (hg : oi.guard = none) (f : FuncId) {xs : Array Operand} {ts : Array TypeId} (args : Array Value)
    (hop : oi.op = .call { callee := .value (.func f), args := xs, argTypes := ts }) (hargs : xs.map a.eval = args) {v : Value} (hrun : ∀ w, (callFunc f args).run P w = .ok (.value v) w)
    (h : wpList P ops Q rest (a.put N v) w) : wpList P ops Q (oi :: rest) a w := by
  refine wpList_plain hg fun K hK => ?_
  have hr : (execOp a.eval oi).run P w = .ok (.value v) w := by
    unfold execOp
    simp [hop, resolve, Deferred.ofValue, invoke, Act.eval, hargs, hrun]
  unfold Oper.wp
  rw [hr]
  subst hd
  exact hK _ _ h

def bits_Add64.f (a b c : Int) : Option (Int × Int) := if 0 ≤ a ∧ 0 ≤ b ∧ 0 ≤ c ∧ c ≤ 1 then some ((a + b + c) % 18446744073709551616, (a + b + c) / 18446744073709551616) else none
theorem bits_Add64.run (a b c r1 r2 : Int) (h : bits_Add64.f a b c = some (r1, r2)) : ∀ w, (callFunc 53 #[.int .u64 a, .int .u64 b, .int .u64 c]).run Try.prog w = .ok (.value (.tuple #[.int .u64 r1, .int .u64 r2])) w := by
  intro w
  unfold bits_Add64.f at h
  split at h
  · rename_i hc
    obtain ⟨rfl, rfl⟩ := Prod.mk.inj (Option.some.inj h)
    obtain ⟨x, rfl⟩ := Int.eq_ofNat_of_zero_le hc.1
    obtain ⟨y, rfl⟩ := Int.eq_ofNat_of_zero_le hc.2.1
    obtain ⟨z, rfl⟩ := Int.eq_ofNat_of_zero_le hc.2.2.1
    have hz : z ≤ 1 := by omega
    rw [run_callFunc_extern Try.func53 (by kernel_rfl) (by kernel_rfl) (by kernel_rfl) (e := add64Entry) (by kernel_rfl), run_add64 x y z (by omega) (by omega) (by omega) (by omega)]
    simp only [Result.andThen]
  · cases h
def bits_Sub64.f (a b c : Int) : Option (Int × Int) := if 0 ≤ a ∧ 0 ≤ b ∧ b < 18446744073709551616 ∧ 0 ≤ c ∧ c ≤ 1 then some ((a - b - c) % 18446744073709551616, if a < b + c then 1 else 0) else none
theorem bits_Sub64.run (a b c r1 r2 : Int) (h : bits_Sub64.f a b c = some (r1, r2)) : ∀ w, (callFunc 55 #[.int .u64 a, .int .u64 b, .int .u64 c]).run Try.prog w = .ok (.value (.tuple #[.int .u64 r1, .int .u64 r2])) w := by
  intro w
  unfold bits_Sub64.f at h
  split at h
  · rename_i hc
    obtain ⟨rfl, rfl⟩ := Prod.mk.inj (Option.some.inj h)
    obtain ⟨x, rfl⟩ := Int.eq_ofNat_of_zero_le hc.1
    obtain ⟨y, rfl⟩ := Int.eq_ofNat_of_zero_le hc.2.1
    obtain ⟨z, rfl⟩ := Int.eq_ofNat_of_zero_le hc.2.2.2.1
    have hz : z ≤ 1 := by omega
    have hy : y < 18446744073709551616 := by omega
    rw [run_callFunc_extern Try.func55 (by kernel_rfl) (by kernel_rfl) (by kernel_rfl) (e := sub64Entry) (by kernel_rfl), run_sub64 x y z hz]
    simp only [Result.andThen]
    have e1 : (((x + 18446744073709551616 - y - z) % 18446744073709551616 : Nat) : Int) = ((x : Int) - y - z) % 18446744073709551616 := by
      clear h hc
      omega
    have e2 : (((if x < y + z then 1 else 0 : Nat) : Nat) : Int) = if (x : Int) < y + z then 1 else 0 := by
      split <;> split <;> omega
    rw [e1, e2]
  · cases h

def moidoreref03_place.f (a0 : Int) : Option Int := if 0 ≤ a0 ∧ a0 ≤ 18446744073709551615 then (if 9223372036854775808 ≤ a0 then some (Go.bits .xor .u64 18446744073709551615 a0) else some (Go.bits .or .u64 a0 9223372036854775808)) else none
theorem moidoreref03_place.calls (a0 : Int) (r : Int) (w : World) (h : moidoreref03_place.f a0 = some r) :
    Calls Try.prog 61 #[.int .u64 a0] w fun e w' => e = .returned (.int .u64 r) ∧ Drawn0 w w' := by
  unfold moidoreref03_place.f at h
  split at h
  · rename_i hc
    obtain ⟨h0, h1⟩ := hc
    split at h
    · rename_i hc
      obtain rfl := Option.some.inj h
      clear h
      go_enter Try.func61, Try.ntmps61
      go_wp2
      go_ret
      exact ⟨rfl, Drawn0.refl _⟩
    · rename_i hc
      obtain rfl := Option.some.inj h
      clear h
      go_enter Try.func61, Try.ntmps61
      go_wp2
      go_ret
      exact ⟨rfl, Drawn0.refl _⟩
  · cases h
end Go.Proofs.Ytcobpbhmpolceaa.Ext
