import Derived.Test.YtcobpbhmpolceaaGH
import Derived.Test.YtcobpbhmpolceaaFA
/-! FloatTells: its walk: printed by gentells.py. -/
namespace Go.Proofs.Ytcobpbhmpolceaa.Pure
open Go.RowKit Go.Proofs.Ytcobpbhmpolceaa.Ext Go.Proofs.Ytcobpbhmpolceaa.PE Go.Proofs.YtcobpbhmpolceaaW.PrintWords Go.Proofs.YtcobpbhmpolceaaW.PrintLast Go.Proofs.YtcobpbhmpolceaaW.PrintMore
set_option linter.unusedVariables false
set_option linter.unusedSimpArgs false

theorem qtE {f : FuncId} {args : Array Value} {w : World} {v : Value} (h : Calls Try.prog f args w fun e w' => e = .returned v ∧ w = w') : Calls Try.prog f args w fun e w' => e = .returned v ∧ Qt w w' := h.mono fun _ _ ⟨h1, h2⟩ => ⟨h1, h2 ▸ Qt.refl w⟩
theorem qtD {f : FuncId} {args : Array Value} {w : World} {v : Value} (h : Calls Try.prog f args w fun e w' => e = .returned v ∧ Drawn0 w w') : Calls Try.prog f args w fun e w' => e = .returned v ∧ Qt w w' := h.mono fun _ _ ⟨h1, h2⟩ => ⟨h1, h2.below⟩
theorem qtB {f : FuncId} {args : Array Value} {w : World} {v : Value} (h : Calls Try.prog f args w fun e w' => e = .returned v ∧ Below w.heap.size w w') : Calls Try.prog f args w fun e w' => e = .returned v ∧ Qt w w' := h

set_option maxRecDepth 100000 in
set_option maxHeartbeats 8000000 in
theorem tells_walk {a b : Nat} (ha : a < 18446744073709551616) (hb : b < 18446744073709551616) {n : Int} (h1 : -9223372036854775808 ≤ n) (h2 : n ≤ 9223372036854775807) (w : World) :
    Calls Try.prog 6 #[.int .u64 (a : Int), .int .u64 (b : Int), .int .i64 n] w fun e w' => e = .returned (.bool true) ∧ Qt w w' := by
  have I0 := Lib.hid (Int_law 0 ha)
  have I1 := Lib.hid (Right_law ha)
  have I2 := Lib.hid (Canon_law ha)
  have I3 := Lib.hid (Neg_law ha)
  have IAdd := Lib.hid (Add_law ha hb)
  have ISub := Lib.hid (Sub_law ha hb)
  have IMul := Lib.hid (Mul_law 0 ha hb)
  have IDiv := Lib.hid (Div_law ha hb 40000000010 (Nat.le_refl _))
  have ISqrt := Lib.hid (Sqrt_law ha 200 (Nat.le_refl _))
  have ILess := Lib.hid (Less_law ha hb)
  have ISame := Lib.hid (Same_law ha hb)
  have IOrder := Lib.hid (Order_law ha hb)
  have IOf := Lib.hid (Of_law 0 h1 h2)
  have HQ0 := Lib.hid (Qt.refl w)
  clear ha hb h1 h2
  go_enter Try.func6, Try.ntmps6
  go_wp2_with (first
    | (have _t := HQ0; go_at_call 15; (with_reducible refine (Int_any (a : Int) _).mono ?_); rintro e w1 ⟨rfl, q⟩; (have HQ1 := Lib.hid (Qt.trans HQ0.out q)); clear q HQ0)
    | (have _t := HQ1; go_at_call 22; (with_reducible refine (qtB (moidoreref03_Int.calls _ (a : Int) _ _ _ I0.out)).mono ?_); rintro e w2 ⟨rfl, q⟩; (have HQ2 := Lib.hid (Qt.trans HQ1.out q)); clear q HQ1)
    | (have _t := HQ2; go_at_call 21; (with_reducible refine (qtE (Right_any (a : Int) _)).mono ?_); rintro e w3 ⟨rfl, q⟩; (have HQ3 := Lib.hid (Qt.trans HQ2.out q)); clear q HQ2)
    | (have _t := HQ3; go_at_call 23; (with_reducible refine (qtD (moidoreref03_Right.calls (a : Int) _ _ I1.out)).mono ?_); rintro e w4 ⟨rfl, q⟩; (have HQ4 := Lib.hid (Qt.trans HQ3.out q)); clear q HQ3)
    | (have _t := HQ4; go_at_call 10; (with_reducible refine (qtE (Canon_any (a : Int) _)).mono ?_); rintro e w5 ⟨rfl, q⟩; (have HQ5 := Lib.hid (Qt.trans HQ4.out q)); clear q HQ4)
    | (have _t := HQ5; go_at_call 24; (with_reducible refine (qtD (moidoreref03_Canon.calls (a : Int) _ _ I2.out)).mono ?_); rintro e w6 ⟨rfl, q⟩; (have HQ6 := Lib.hid (Qt.trans HQ5.out q)); clear q HQ5)
    | (have _t := HQ6; go_at_call 20; (with_reducible refine (Neg_any (a : Int) _).mono ?_); rintro e w7 ⟨rfl, q⟩; (have HQ7 := Lib.hid (Qt.trans HQ6.out q)); clear q HQ6)
    | (have _t := HQ7; go_at_call 25; (with_reducible refine (qtD (moidoreref03_Neg.calls (a : Int) _ _ I3.out)).mono ?_); rintro e w8 ⟨rfl, q⟩; (have HQ8 := Lib.hid (Qt.trans HQ7.out q)); clear q HQ7)
    | (have _t := HQ8; go_at_call 13; (with_reducible refine (Go.Proofs.Ytcobpbhmpolceaa.Add_any (a : Int) (b : Int) _).mono ?_); rintro e w9 ⟨rfl, q⟩; (have HQ9 := Lib.hid (Qt.trans HQ8.out q)); clear q HQ8)
    | (have _t := HQ9; go_at_call 26; (with_reducible refine (qtB (moidoreref03_Add.calls (a : Int) (b : Int) _ _ IAdd.out)).mono ?_); rintro e w10 ⟨rfl, q⟩; (have HQ10 := Lib.hid (Qt.trans HQ9.out q)); clear q HQ9)
    | (have _t := HQ10; go_at_call 18; (with_reducible refine (Go.Proofs.Ytcobpbhmpolceaa.Sub_any (a : Int) (b : Int) _).mono ?_); rintro e w11 ⟨rfl, q⟩; (have HQ11 := Lib.hid (Qt.trans HQ10.out q)); clear q HQ10)
    | (have _t := HQ11; go_at_call 27; (with_reducible refine (qtB (moidoreref03_Sub.calls (a : Int) (b : Int) _ _ ISub.out)).mono ?_); rintro e w12 ⟨rfl, q⟩; (have HQ12 := Lib.hid (Qt.trans HQ11.out q)); clear q HQ11)
    | (have _t := HQ12; go_at_call 16; (with_reducible refine (Go.Proofs.Ytcobpbhmpolceaa.Mul_any (a : Int) (b : Int) _).mono ?_); rintro e w13 ⟨rfl, q⟩; (have HQ13 := Lib.hid (Qt.trans HQ12.out q)); clear q HQ12)
    | (have _t := HQ13; go_at_call 28; (with_reducible refine (qtB (moidoreref03_Mul.calls _ (a : Int) (b : Int) _ _ IMul.out)).mono ?_); rintro e w14 ⟨rfl, q⟩; (have HQ14 := Lib.hid (Qt.trans HQ13.out q)); clear q HQ13)
    | (have _t := HQ14; go_at_call 19; (with_reducible refine (Go.Proofs.Ytcobpbhmpolceaa.Div_any (a : Int) (b : Int) _).mono ?_); rintro e w15 ⟨rfl, q⟩; (have HQ15 := Lib.hid (Qt.trans HQ14.out q)); clear q HQ14)
    | (have _t := HQ15; go_at_call 29; (with_reducible refine (qtB (moidoreref03_Div.calls _ (a : Int) (b : Int) _ _ IDiv.out)).mono ?_); rintro e w16 ⟨rfl, q⟩; (have HQ16 := Lib.hid (Qt.trans HQ15.out q)); clear q HQ15)
    | (have _t := HQ16; go_at_call 17; (with_reducible refine (Sqrt_any (a : Int) _).mono ?_); rintro e w17 ⟨rfl, q⟩; (have HQ17 := Lib.hid (Qt.trans HQ16.out q)); clear q HQ16)
    | (have _t := HQ17; go_at_call 30; (with_reducible refine (qtB (moidoreref03_Sqrt.calls _ (a : Int) _ _ ISqrt.out)).mono ?_); rintro e w18 ⟨rfl, q⟩; (have HQ18 := Lib.hid (Qt.trans HQ17.out q)); clear q HQ17)
    | (have _t := HQ18; go_at_call 11; (with_reducible refine (qtE (Less_any (a : Int) (b : Int) _)).mono ?_); rintro e w19 ⟨rfl, q⟩; (have HQ19 := Lib.hid (Qt.trans HQ18.out q)); clear q HQ18)
    | (have _t := HQ19; go_at_call 31; (with_reducible refine (qtD (moidoreref03_Less.calls (a : Int) (b : Int) _ _ ILess.out)).mono ?_); rintro e w20 ⟨rfl, q⟩; (have HQ20 := Lib.hid (Qt.trans HQ19.out q)); clear q HQ19)
    | (have _t := HQ20; go_at_call 12; (with_reducible refine (qtE (Same_any (a : Int) (b : Int) _)).mono ?_); rintro e w21 ⟨rfl, q⟩; (have HQ21 := Lib.hid (Qt.trans HQ20.out q)); clear q HQ20)
    | (have _t := HQ21; go_at_call 32; (with_reducible refine (qtD (moidoreref03_Same.calls (a : Int) (b : Int) _ _ ISame.out)).mono ?_); rintro e w22 ⟨rfl, q⟩; (have HQ22 := Lib.hid (Qt.trans HQ21.out q)); clear q HQ21)
    | (have _t := HQ22; go_at_call 9; (with_reducible refine (qtE (Order_any (a : Int) (b : Int) _)).mono ?_); rintro e w23 ⟨rfl, q⟩; (have HQ23 := Lib.hid (Qt.trans HQ22.out q)); clear q HQ22)
    | (have _t := HQ23; go_at_call 33; (with_reducible refine (qtD (moidoreref03_Order.calls (a : Int) (b : Int) _ _ IOrder.out)).mono ?_); rintro e w24 ⟨rfl, q⟩; (have HQ24 := Lib.hid (Qt.trans HQ23.out q)); clear q HQ23)
    | (have _t := HQ24; go_at_call 14; (with_reducible refine (qtE (Of_any n _)).mono ?_); rintro e w25 ⟨rfl, q⟩; (have HQ25 := Lib.hid (Qt.trans HQ24.out q)); clear q HQ24)
    | (have _t := HQ25; go_at_call 34; (with_reducible refine (qtB (moidoreref03_Of.calls _ n _ _ IOf.out)).mono ?_); rintro e w26 ⟨rfl, q⟩; (have HQ26 := Lib.hid (Qt.trans HQ25.out q)); clear q HQ25)
    | (have _t := HQ26; go_at_call 8; (with_reducible refine (awake_any _).mono ?_); rintro e w27 ⟨rfl, q⟩; (have HQ27 := Lib.hid (Qt.trans HQ26.out q)); clear q HQ26))
  go_ret
  exact ⟨rfl, HQ27.out⟩
end Go.Proofs.Ytcobpbhmpolceaa.Pure
namespace Go.Proofs.Ytcobpbhmpolceaa.Ext
open Go.RowKit Go.Proofs.YtcobpbhmpolceaaW.PrintWords
def moidorelaw03_FloatTells.f (a0 a1 a2 : Int) : Option Bool := if (0 ≤ a0 ∧ a0 < 18446744073709551616) ∧ (0 ≤ a1 ∧ a1 < 18446744073709551616) ∧ -9223372036854775808 ≤ a2 ∧ a2 ≤ 9223372036854775807 then some true else none
theorem moidorelaw03_FloatTells.calls (a0 a1 a2 : Int) (r : Bool) (w : World) (h : moidorelaw03_FloatTells.f a0 a1 a2 = some r) :
    Calls Try.prog 6 #[.int .u64 a0, .int .u64 a1, .int .i64 a2] w fun e w' => e = .returned (.bool r) ∧ Below w.heap.size w w' := by
  unfold moidorelaw03_FloatTells.f at h
  split at h
  · rename_i hc
    obtain rfl := Option.some.inj h
    obtain ⟨m, rfl⟩ := Int.eq_ofNat_of_zero_le hc.1.1
    obtain ⟨n, rfl⟩ := Int.eq_ofNat_of_zero_le hc.2.1.1
    exact Pure.tells_walk (by omega) (by omega) hc.2.2.1 hc.2.2.2 w
  · cases h
end Go.Proofs.Ytcobpbhmpolceaa.Ext

/-! FloatTells: the walk in the row's words. -/
namespace Go.Proofs.Ytcobpbhmpolceaa
open Go.RowKit

theorem i64_of {a : Int} (h : (Lit.int .i64 a).wf = true) : -9223372036854775808 ≤ a ∧ a ≤ 9223372036854775807 := by
  have e1 : IntKind.i64.min = -9223372036854775808 := rfl
  have e2 : IntKind.i64.max = 9223372036854775807 := rfl
  simpa only [Lit.wf, Bool.and_eq_true, decide_eq_true_eq, e1, e2] using h
theorem tells_row (a b n : Int) (ha : (Lit.int .u64 a).wf = true) (hb : (Lit.int .u64 b).wf = true) (hn : (Lit.int .i64 n).wf = true) (w : World) :
    Calls Try.prog 6 #[.int .u64 a, .int .u64 b, .int .i64 n] w fun e w' => e = .returned (.bool true) ∧ Qt w w' := by
  obtain ⟨x, rfl, hx⟩ := Pure.nat_wd (Wd.of ha)
  obtain ⟨y, rfl, hy⟩ := Pure.nat_wd (Wd.of hb)
  exact Pure.tells_walk hx hy (i64_of hn).1 (i64_of hn).2 w
end Go.Proofs.Ytcobpbhmpolceaa
