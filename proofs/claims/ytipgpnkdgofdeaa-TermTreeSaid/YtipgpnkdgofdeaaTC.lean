import Derived.Test.YtipgpnkdgofdeaaTB
/-! grow. -/
namespace Go.Proofs.Ytipgpnkdgofdeaa.Tm
open Go.RowKit
set_option linter.unusedVariables false
set_option linter.unusedSimpArgs false

theorem grow_nil (N : Nat) (v : Value) (lb : Nat → Prop) (w : World) (h : Lies w lb v []) : Calls Try.prog 63 #[v] w fun e w' => e = .panicked [tnone] ∧ Qt w w' := by
  obtain ⟨A, c, rfl⟩ := h.form
  have H1 := mkNone
  have q : ∀ o, Qt w (w.alloc o) := fun o => (Qt.refl w).alloc o
  clear h
  go_enter Try.func63, Try.ntmps63
  go_wp2
  exact ⟨rfl, rfl, q _⟩
set_option maxHeartbeats 400000 in
theorem grow_bad (n : Nd) (l : List Nd) (v : Value) (lb : Nat → Prop) (w : World) (h : Lies w lb v (n :: l)) (hl : l.length ≤ 1000000) (hk : ¬ (0 ≤ n.f4 ∧ n.f4 ≤ l.length)) : Calls Try.prog 63 #[v] w fun e w' => e = .panicked [tnone] ∧ Qt w w' := by
  obtain ⟨A, c, rfl⟩ := h.form
  obtain ⟨b, off, rfl, _, hc, hr⟩ := h.first
  have c4 : ∀ o, (w.alloc o).cell? ⟨b, off + 4, none⟩ = some (.int .i64 n.f4) := fun o => cell_al (hr 4 _ rfl) (blk_of_cell (hr 4 _ rfl)) o
  have H1 := mkNone
  have q : ∀ o, Qt w (w.alloc o) := fun o => (Qt.refl w).alloc o
  simp only [List.length_cons]
  clear h hr
  by_cases h0 : n.f4 < 0
  · go_enter Try.func63, Try.ntmps63
    go_wp2
    exact ⟨rfl, rfl, q _⟩
  · have h1 : (l.length : Int) + 1 ≤ n.f4 := by omega
    go_enter Try.func63, Try.ntmps63
    go_wp2
    exact ⟨rfl, rfl, q _⟩
end Go.Proofs.Ytipgpnkdgofdeaa.Tm
