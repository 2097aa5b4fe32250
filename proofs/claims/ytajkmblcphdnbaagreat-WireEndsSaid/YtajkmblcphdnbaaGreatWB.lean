import Derived.Test.YtajkmblcphdnbaaGreatWA
import Derived.Deep.MidRow
/-! What spoils. -/
namespace Go.Proofs.YtajkmblcphdnbaaGreat
open Go.RowKit
set_option linter.unusedVariables false
set_option linter.unusedSimpArgs false

@[go_sem] theorem as_unmet (v : Value) (w : World) : (Instr.typeAssert (.iface 90 v) 20 90 true).run Tryz.prog w = .ok (.tuple #[v, .bool true]) w := by kernel_rfl

theorem caught_nil (p : Value) (w : World) : Calls Tryz.prog 94 #[p, .nilIface] w fun e w' => e = .returned (.tuple #[]) ∧ w = w' := by
  go_enter Tryz.func94, Tryz.ntmps94
  go_wp2
  refine bodyPost_ret (results_none rfl _ _ _) rfl ?_
  exact ⟨rfl, rfl⟩
theorem caught_unmet (a : Nat) (t : TypeId) (x y : Value) (z : List Value) (w : World) (hb : Blk w a t (x :: y :: z)) :
    Calls Tryz.prog 94 #[.pointer (some ⟨a, 0, none⟩), .iface 90 (.agg #[])] w fun e w' => e = .returned (.tuple #[]) ∧ Blk w' a t (x :: .bool true :: z) ∧ Og a w w' := by
  have c1 : ∀ o, (w.alloc o).cell? ⟨a, 1, none⟩ = some y := fun o => by rw [(hb.alloc o).cell]; rfl
  have f1 : ∀ o, (w.alloc o).frozen? ⟨a, 1, none⟩ = false := fun o => (hb.alloc o).frozen 1
  have HB := Lib.hid hb
  clear hb
  go_enter Tryz.func94, Tryz.ntmps94
  go_wp2
  go_end0
  exact ⟨rfl, (HB.out.alloc _).set 1 _, ((Og.refl a w).alloc _).setCell (.inl rfl) _⟩
end Go.Proofs.YtajkmblcphdnbaaGreat
