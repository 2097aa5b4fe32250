import Derived.Test.YtcobpbhmpolceaaGB
import Derived.Test.YtcobpbhmpolceaaFN
/-! What the reference's Add comes to. Plain laws over the printed functions. -/
namespace Go.Proofs.Ytcobpbhmpolceaa.Pure
open Go.RowKit Go.Proofs.Ytcobpbhmpolceaa.Ext Go.Proofs.Ytcobpbhmpolceaa.PE Go.Proofs.YtcobpbhmpolceaaW.PrintWords Go.Proofs.YtcobpbhmpolceaaW.PrintLast Go.Proofs.YtcobpbhmpolceaaW.PrintMore Ieee
set_option linter.unusedVariables false
set_option linter.unusedSimpArgs false

theorem add64_nat (x y : Nat) : bits_Add64.f (x : Int) (y : Int) 0 = some ((((x + y) % 18446744073709551616 : Nat) : Int), (((x + y) / 18446744073709551616 : Nat) : Int)) := by
  unfold bits_Add64.f
  rw [if_pos ⟨by omega, by omega, by omega, by omega⟩]
  congr 2 <;> omega
theorem sub64_nat (x y : Nat) (hx : x < 18446744073709551616) (hy : y < 18446744073709551616) : bits_Sub64.f (x : Int) (y : Int) 0 = some ((((x + 18446744073709551616 - y) % 18446744073709551616 : Nat) : Int), ((if x < y then 1 else 0 : Nat) : Int)) := by
  unfold bits_Sub64.f
  rw [if_pos ⟨by omega, by omega, by omega, by omega, by omega⟩]
  have e1 : ((x : Int) - y - 0) % 18446744073709551616 = (((x + 18446744073709551616 - y) % 18446744073709551616 : Nat) : Int) := by omega
  rw [e1]
  by_cases h : x < y
  · rw [if_pos (by omega), if_pos h]; rfl
  · rw [if_neg (by omega), if_neg h]; rfl


theorem V_same (k X n : Nat) (s : Bool) (E : Int) (more : Bool) (hX : X < 166153499473114484112975882535043072) (hn : n < 9007199254740992) (hE : -3000 ≤ E) (hE' : E ≤ 3000) (hmore : more = true → 9007199254740992 ≤ X + n) :
    moidoreref03_rounded.f (k + 4) s (IntKind.u64.wrap (((X / 18446744073709551616 : Nat) : Int) + (((X % 18446744073709551616 + n) / 18446744073709551616 : Nat) : Int))) (((X % 18446744073709551616 + n) % 18446744073709551616 : Nat) : Int) E more = some ((rnd s (X + n) E more : Nat) : Int) := by
  have e : IntKind.u64.wrap (((X / 18446744073709551616 : Nat) : Int) + (((X % 18446744073709551616 + n) / 18446744073709551616 : Nat) : Int)) = (((X + n) / 18446744073709551616 : Nat) : Int) := by
    rw [← Int.natCast_add, wn (by omega)]; congr 1; omega
  rw [e, rounded_nat k s _ _ E more (by omega) (by omega) hE hE' (fun h => by have := hmore h; omega)]
  have e2 : (X + n) / 18446744073709551616 * 18446744073709551616 + (X % 18446744073709551616 + n) % 18446744073709551616 = X + n := by omega
  rw [e2]
theorem V_lt (k X n : Nat) (t : Bool) (E : Int) (hlt : X < n) (hn : n < 9007199254740992) (hE : -3000 ≤ E) (hE' : E ≤ 3000) :
    moidoreref03_rounded.f (k + 4) t 0 (IntKind.u64.wrap ((n : Int) - ((X % 18446744073709551616 : Nat) : Int))) E false = some ((rnd t (n - X) E false : Nat) : Int) := by
  have e : IntKind.u64.wrap ((n : Int) - ((X % 18446744073709551616 : Nat) : Int)) = ((n - X : Nat) : Int) := by
    rw [Nat.mod_eq_of_lt (by omega), u64_id (by omega) (by omega)]; omega
  have hR := rounded_nat k t 0 (n - X) E false (by decide) (by omega) hE hE' (fun h => by cases h)
  rw [Nat.zero_mul, Nat.zero_add] at hR
  rw [e, show (0 : Int) = ((0 : Nat) : Int) from rfl, hR]
theorem V_hi (X n : Nat) (hX : X < 166153499473114484112975882535043072) (hn : n < 9007199254740992) (hge : n ≤ X) : IntKind.u64.wrap (((X / 18446744073709551616 : Nat) : Int) - ((if X % 18446744073709551616 < n then 1 else 0 : Nat) : Int)) = (((X - n) / 18446744073709551616 : Nat) : Int) := by
  by_cases c : X % 18446744073709551616 < n
  · rw [if_pos c, u64_id (by omega) (by omega)]; omega
  · rw [if_neg c, u64_id (by omega) (by omega)]; omega
theorem V_lo (X n : Nat) (hn : n < 9007199254740992) (hge : n ≤ X) : (X % 18446744073709551616 + 18446744073709551616 - n) % 18446744073709551616 = (X - n) % 18446744073709551616 := by omega
theorem V_ge (k X n : Nat) (s : Bool) (E : Int) (more : Bool) (hX : X < 166153499473114484112975882535043072) (hn : n < 9007199254740992) (hge : n ≤ X) (hE : -3000 ≤ E) (hE' : E ≤ 3000) :
    moidoreref03_rounded.f (k + 4) s (IntKind.u64.wrap (((X / 18446744073709551616 : Nat) : Int) - ((if X % 18446744073709551616 < n then 1 else 0 : Nat) : Int))) (((X % 18446744073709551616 + 18446744073709551616 - n) % 18446744073709551616 : Nat) : Int) E false = some ((rnd s (X - n) E false : Nat) : Int) := by
  have hR := rounded_nat k s ((X - n) / 18446744073709551616) ((X - n) % 18446744073709551616) E false (by omega) (by omega) hE hE' (fun h => by cases h)
  rw [show (X - n) / 18446744073709551616 * 18446744073709551616 + (X - n) % 18446744073709551616 = X - n from by omega] at hR
  rw [V_hi X n hX hn hge, V_lo X n hn hge, hR]
theorem V_hi2 (X n : Nat) (hX : X < 166153499473114484112975882535043072) (hn : n < 9007199254740992) (hbig : 18446744073709551616 ≤ X) : IntKind.u64.wrap ((IntKind.u64.wrap (((X / 18446744073709551616 : Nat) : Int) - ((if X % 18446744073709551616 < n then 1 else 0 : Nat) : Int))) - ((if (X % 18446744073709551616 + 18446744073709551616 - n) % 18446744073709551616 < 1 then 1 else 0 : Nat) : Int)) = (((X - n - 1) / 18446744073709551616 : Nat) : Int) := by
  rw [V_hi X n hX hn (by omega)]
  by_cases c : (X % 18446744073709551616 + 18446744073709551616 - n) % 18446744073709551616 < 1
  · rw [if_pos c, u64_id (by omega) (by omega)]; omega
  · rw [if_neg c, u64_id (by omega) (by omega)]; omega
theorem V_more (k X n : Nat) (s : Bool) (E : Int) (hX : X < 166153499473114484112975882535043072) (hn : n < 9007199254740992) (hbig : 36893488147419103232 ≤ X) (hE : -3000 ≤ E) (hE' : E ≤ 3000) :
    moidoreref03_rounded.f (k + 4) s (IntKind.u64.wrap ((IntKind.u64.wrap (((X / 18446744073709551616 : Nat) : Int) - ((if X % 18446744073709551616 < n then 1 else 0 : Nat) : Int))) - ((if (X % 18446744073709551616 + 18446744073709551616 - n) % 18446744073709551616 < 1 then 1 else 0 : Nat) : Int))) ((((X % 18446744073709551616 + 18446744073709551616 - n) % 18446744073709551616 + 18446744073709551616 - 1) % 18446744073709551616 : Nat) : Int) E true = some ((rnd s (X - n - 1) E true : Nat) : Int) := by
  have e2 : ((X % 18446744073709551616 + 18446744073709551616 - n) % 18446744073709551616 + 18446744073709551616 - 1) % 18446744073709551616 = (X - n - 1) % 18446744073709551616 := by omega
  have hR := rounded_nat k s ((X - n - 1) / 18446744073709551616) ((X - n - 1) % 18446744073709551616) E true (by omega) (by omega) hE hE' (fun _ => by omega)
  rw [show (X - n - 1) / 18446744073709551616 * 18446744073709551616 + (X - n - 1) % 18446744073709551616 = X - n - 1 from by omega] at hR
  rw [V_hi2 X n hX hn (by omega), e2, hR]
end Go.Proofs.Ytcobpbhmpolceaa.Pure
