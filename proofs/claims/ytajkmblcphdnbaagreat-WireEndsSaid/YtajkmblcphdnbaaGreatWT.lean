import Derived.Test.YtajkmblcphdnbaaGreatWR
/-! No reader, one that nobody made: Err, End, Spoil. -/
namespace Go.Proofs.YtajkmblcphdnbaaGreat
open Go.RowKit
set_option linter.unusedVariables false
set_option linter.unusedSimpArgs false

theorem Err_nil (w : World) : Calls Tryz.prog 23 #[.pointer none] w fun e w' => e = .returned (.int .i64 1) ∧ w = w' := by
  go_enter Tryz.func23, Tryz.ntmps23
  go_wp2
  go_ret
  exact ⟨rfl, rfl⟩
theorem Err_unmade (a : Nat) (b : Bool) (sl : Value) (w : World) (hb : Blk w a 69 [.bool false, .bool b, sl]) : Calls Tryz.prog 23 #[.pointer (some ⟨a, 0, none⟩)] w fun e w' => e = .returned (.int .i64 1) ∧ w = w' := by
  have c0 : w.cell? ⟨a, 0, none⟩ = some (.bool false) := hb.cell 0
  clear hb
  go_enter Tryz.func23, Tryz.ntmps23
  go_wp2
  go_ret
  exact ⟨rfl, rfl⟩
theorem End_nil (w : World) : Calls Tryz.prog 22 #[.pointer none] w fun e w' => e = .returned (.bool false) ∧ w = w' := by
  have HE := Lib.hid (Err_nil w)
  go_enter Tryz.func22, Tryz.ntmps22
  go_wp2_with (go_at_call 23; refine HE.out.mono ?_; rintro e w1 ⟨rfl, rfl⟩)
  go_ret
  exact ⟨rfl, rfl⟩
theorem End_unmade (a : Nat) (b : Bool) (sl : Value) (w : World) (hb : Blk w a 69 [.bool false, .bool b, sl]) : Calls Tryz.prog 22 #[.pointer (some ⟨a, 0, none⟩)] w fun e w' => e = .returned (.bool false) ∧ w = w' := by
  have HE := Lib.hid (Err_unmade a b sl w hb)
  clear hb
  go_enter Tryz.func22, Tryz.ntmps22
  go_wp2_with (go_at_call 23; refine HE.out.mono ?_; rintro e w1 ⟨rfl, rfl⟩)
  go_ret
  exact ⟨rfl, rfl⟩
end Go.Proofs.YtajkmblcphdnbaaGreat
