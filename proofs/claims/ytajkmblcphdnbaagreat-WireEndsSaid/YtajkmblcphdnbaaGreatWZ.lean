import Derived.Test.YtajkmblcphdnbaaGreatWX
import Derived.Test.YtajkmblcphdnbaaGreatWP
/-! The reference's Left, Err, End. -/
namespace Go.Proofs.YtajkmblcphdnbaaGreat
open Go.RowKit
set_option linter.unusedVariables false
set_option linter.unusedSimpArgs false

theorem rLeft_any (a : Nat) (st : Option (List Nat)) (w : World) (hr : RfA w a st) : Calls Tryz.prog 61 #[.pointer (some ⟨a, 0, none⟩)] w fun e w' => e = .returned (.int .i64 (leftV st : Nat)) ∧ w = w' := by
  cases st with
  | none =>
    obtain ⟨_, _, _, hb⟩ := hr
    have c1 : w.cell? ⟨a, 1, none⟩ = some (.bool true) := hb.cell 1
    clear hb
    go_enter Tryz.func61, Tryz.ntmps61
    go_wp2
    go_ret
    exact ⟨rfl, rfl⟩
  | some l =>
    obtain ⟨⟨sl, hb, hs⟩, _⟩ := hr
    obtain ⟨sb, sc, rfl⟩ := hs.len
    have c0 : w.cell? ⟨a, 0, none⟩ = some (.slice sb l.length sc) := hb.cell 0
    have c1 : w.cell? ⟨a, 1, none⟩ = some (.bool false) := hb.cell 1
    clear hb hs
    go_enter Tryz.func61, Tryz.ntmps61
    go_wp2
    go_ret
    exact ⟨by simp [leftV], rfl⟩
theorem rErr_any (a : Nat) (st : Option (List Nat)) (w : World) (hr : RfA w a st) : Calls Tryz.prog 62 #[.pointer (some ⟨a, 0, none⟩)] w fun e w' => e = .returned (.int .i64 (if st.isSome then 0 else 4)) ∧ w = w' := by
  cases st with
  | none =>
    obtain ⟨_, _, _, hb⟩ := hr
    have c1 : w.cell? ⟨a, 1, none⟩ = some (.bool true) := hb.cell 1
    clear hb
    go_enter Tryz.func62, Tryz.ntmps62
    go_wp2
    go_ret
    exact ⟨rfl, rfl⟩
  | some l =>
    obtain ⟨⟨sl, hb, hs⟩, _⟩ := hr
    have c1 : w.cell? ⟨a, 1, none⟩ = some (.bool false) := hb.cell 1
    clear hb hs
    go_enter Tryz.func62, Tryz.ntmps62
    go_wp2
    go_ret
    exact ⟨rfl, rfl⟩
end Go.Proofs.YtajkmblcphdnbaaGreat
