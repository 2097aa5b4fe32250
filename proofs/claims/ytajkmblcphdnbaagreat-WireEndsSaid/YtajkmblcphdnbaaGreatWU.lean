import Derived.Test.YtajkmblcphdnbaaGreatWH
/-! The reference's reader: take, number. -/
namespace Go.Proofs.YtajkmblcphdnbaaGreat
open Go.RowKit
set_option linter.unusedVariables false
set_option linter.unusedSimpArgs false

/-- The reference's reader: what is left, or that it is spoilt. -/
def RfA (w : World) (a : Nat) : Option (List Nat) → Prop
  | some l => (∃ sl, Blk w a 47 [sl, .bool false] ∧ Sl w sl l) ∧ ∀ x ∈ l, x < 256
  | none => ∃ b n c, Blk w a 47 [.slice b n c, .bool true]
theorem no_u8r {x : Bool} {s : Value} (hs : ∃ a n c, s = .slice a n c) : ∀ v ∈ [s, Value.bool x], ∀ k : Int, v ≠ .int .u8 k := by
  obtain ⟨a, n, c, rfl⟩ := hs
  intro v hv k e
  subst e
  simp at hv

section
variable (a : Nat) (sl : Value) (l : List Nat) (w : World)
theorem rtake_yes (k : Nat) (hb : Blk w a 47 [sl, .bool false]) (hs : Sl w sl l) (hk : k ≤ l.length) :
    Calls Tryz.prog 92 #[.pointer (some ⟨a, 0, none⟩), .int .i64 (k : Int)] w fun e w' => ∃ v, e = .returned v ∧ Sl w v (l.take k) ∧ (∃ sl', Blk w' a 47 [sl', .bool false] ∧ Tl sl l sl' (l.drop k)) ∧ Og a w w' := by
  have f2 : w.frozen? ⟨a, 0, none⟩ = false := hb.frozen 0
  have c1 : w.cell? ⟨a, 1, none⟩ = some (.bool false) := hb.cell 1
  have HB := Lib.hid hb
  rcases hs with ⟨⟨a0, rfl⟩, rfl⟩ | ⟨b, off, c, rfl, hc, hm, hx⟩
  · obtain rfl : k = 0 := by simpa using hk
    have c2 : w.cell? ⟨a, 0, none⟩ = some (.slice a0 0 0) := hb.cell 0
    clear hb
    cases a0
    all_goals
     go_enter Tryz.func92, Tryz.ntmps92
     go_wp2
     go_ret
     exact ⟨_, rfl, .inl ⟨⟨_, rfl⟩, rfl⟩, ⟨_, HB.out.set 0 _, fun _ h => h⟩, (Og.refl a w).setCell (.inl rfl) _⟩
  · have c2 : w.cell? ⟨a, 0, none⟩ = some (.slice (some ⟨b, off, none⟩) l.length c) := hb.cell 0
    have HX := Lib.hid hx
    have hm1 := hm.1
    have HMM := Lib.hid hm
    clear hb hx hm
    go_enter Tryz.func92, Tryz.ntmps92
    go_wp2
    all_goals go_ret
    · subst h
      exact ⟨_, rfl, Sl.head hc HMM.out HX.out hk, ⟨_, HB.out.set 0 _, by simpa using Tl.tail (c := c) (off := off) (off' := off) (b := b) hk (.inr rfl)⟩, (Og.refl a w).setCell (.inl rfl) _⟩
    · exact ⟨_, rfl, Sl.head hc HMM.out HX.out hk, ⟨_, HB.out.set 0 _, Tl.tail hk (.inl rfl)⟩, (Og.refl a w).setCell (.inl rfl) _⟩
theorem rtake_no (n : Int) (sb : Option Addr) (c : Nat) (hb : Blk w a 47 [.slice sb l.length c, .bool false]) (hn : n < 0 ∨ (l.length : Int) < n) :
    Calls Tryz.prog 92 #[.pointer (some ⟨a, 0, none⟩), .int .i64 n] w fun e w' => e = .returned (.slice none 0 0) ∧ Blk w' a 47 [.slice sb l.length c, .bool true] ∧ Og a w w' := by
  have c0 : w.cell? ⟨a, 0, none⟩ = some (.slice sb l.length c) := hb.cell 0
  have c1 : w.cell? ⟨a, 1, none⟩ = some (.bool false) := hb.cell 1
  have f1 : w.frozen? ⟨a, 1, none⟩ = false := hb.frozen 1
  have HB := Lib.hid hb
  clear hb
  rcases hn with hn | hn
  · have d1 : decide (n < 0) = true := by simp; omega
    go_enter Tryz.func92, Tryz.ntmps92
    go_wp2
    go_ret
    exact ⟨rfl, HB.out.set 1 _, (Og.refl a w).setCell (.inl rfl) _⟩
  · have d1 : decide (n < 0) = false := by simp; omega
    have d2 : decide ((l.length : Int) < n) = true := by simp; omega
    go_enter Tryz.func92, Tryz.ntmps92
    go_wp2
    go_ret
    exact ⟨rfl, HB.out.set 1 _, (Og.refl a w).setCell (.inl rfl) _⟩
theorem rtake_bad (n : Int) (hb : Blk w a 47 [sl, .bool true]) :
    Calls Tryz.prog 92 #[.pointer (some ⟨a, 0, none⟩), .int .i64 n] w fun e w' => e = .returned (.slice none 0 0) ∧ Blk w' a 47 [sl, .bool true] ∧ Og a w w' := by
  have c1 : w.cell? ⟨a, 1, none⟩ = some (.bool true) := hb.cell 1
  have f1 : w.frozen? ⟨a, 1, none⟩ = false := hb.frozen 1
  have HB := Lib.hid hb
  clear hb
  go_enter Tryz.func92, Tryz.ntmps92
  go_wp2
  go_ret
  exact ⟨rfl, HB.out.set 1 _, (Og.refl a w).setCell (.inl rfl) _⟩
end
end Go.Proofs.YtajkmblcphdnbaaGreat
