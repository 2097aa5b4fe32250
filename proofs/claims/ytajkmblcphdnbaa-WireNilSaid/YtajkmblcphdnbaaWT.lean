import Derived.Test.YtajkmblcphdnbaaWR
/-! No reader, one that nobody made: Err, End, Spoil. -/
namespace Go.Proofs.Ytajkmblcphdnbaa
open Go.RowKit
set_option linter.unusedVariables false
set_option linter.unusedSimpArgs false

theorem Err_nil (w : World) : Calls Try.prog 20 #[.pointer none] w fun e w' => e = .returned (.int .i64 1) ∧ w = w' := by
  go_enter Try.func20, Try.ntmps20
  go_wp2
  go_ret
  exact ⟨rfl, rfl⟩
theorem Err_unmade (a : Nat) (b : Bool) (sl : Value) (w : World) (hb : Blk w a 64 [.bool false, .bool b, sl]) : Calls Try.prog 20 #[.pointer (some ⟨a, 0, none⟩)] w fun e w' => e = .returned (.int .i64 1) ∧ w = w' := by
  have c0 : w.cell? ⟨a, 0, none⟩ = some (.bool false) := hb.cell 0
  clear hb
  go_enter Try.func20, Try.ntmps20
  go_wp2
  go_ret
  exact ⟨rfl, rfl⟩
theorem End_nil (w : World) : Calls Try.prog 21 #[.pointer none] w fun e w' => e = .returned (.bool false) ∧ w = w' := by
  have HE := Lib.hid (Err_nil w)
  go_enter Try.func21, Try.ntmps21
  go_wp2_with (go_at_call 20; refine HE.out.mono ?_; rintro e w1 ⟨rfl, rfl⟩)
  go_ret
  exact ⟨rfl, rfl⟩
theorem End_unmade (a : Nat) (b : Bool) (sl : Value) (w : World) (hb : Blk w a 64 [.bool false, .bool b, sl]) : Calls Try.prog 21 #[.pointer (some ⟨a, 0, none⟩)] w fun e w' => e = .returned (.bool false) ∧ w = w' := by
  have HE := Lib.hid (Err_unmade a b sl w hb)
  clear hb
  go_enter Try.func21, Try.ntmps21
  go_wp2_with (go_at_call 20; refine HE.out.mono ?_; rintro e w1 ⟨rfl, rfl⟩)
  go_ret
  exact ⟨rfl, rfl⟩
theorem Spoil_nil (w : World) : Calls Try.prog 27 #[.pointer none] w fun e w' => e = .returned (.tuple #[]) ∧ w = w' := by
  go_enter Try.func27, Try.ntmps27
  go_wp2
  go_end0
  exact ⟨rfl, rfl⟩
theorem Spoil_unmade (a : Nat) (b : Bool) (sl : Value) (w : World) (hb : Blk w a 64 [.bool false, .bool b, sl]) : Calls Try.prog 27 #[.pointer (some ⟨a, 0, none⟩)] w fun e w' => e = .returned (.tuple #[]) ∧ Blk w' a 64 [.bool false, .bool true, sl] ∧ Og a w w' := by
  have c1 : w.cell? ⟨a, 1, none⟩ = some (.bool b) := hb.cell 1
  have f1 : w.frozen? ⟨a, 1, none⟩ = false := hb.frozen 1
  have HB := Lib.hid hb
  clear hb
  go_enter Try.func27, Try.ntmps27
  go_wp2_with (go_at_call 77; go_enter Try.func77, Try.ntmps77)
  go_end0
  exact ⟨rfl, HB.out.set 1 _, (Og.refl a w).setCell (.inl rfl) _⟩
end Go.Proofs.Ytajkmblcphdnbaa
