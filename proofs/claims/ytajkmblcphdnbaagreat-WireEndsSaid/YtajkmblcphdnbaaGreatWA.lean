import Derived.Test.YtajkmblcphdnbaaGreatU
import Derived.Laws.Rows
/-! Readers and writers in memory; what is thrown where an ask is not met. -/
namespace Go.Proofs.YtajkmblcphdnbaaGreat
open Go.RowKit
set_option linter.unusedVariables false
set_option linter.unusedSimpArgs false

/-- Nothing that was there has turned, but block a. -/
def Og (a : Nat) (w w' : World) : Prop := w.grownBy w' (some a)
theorem Og.refl (a : Nat) (w : World) : Og a w w := ⟨rfl, rfl, rfl, Nat.le_refl _, fun _ _ _ => rfl⟩
theorem Og.trans {a : Nat} {x y z : World} (h : Og a x y) (k : Og a y z) : Og a x z :=
  ⟨k.os.trans h.os, k.tape.trans h.tape, k.output.trans h.output, Nat.le_trans h.size k.size, fun i hi hn => (k.block i (Nat.lt_of_lt_of_le hi h.size) hn).trans (h.block i hi hn)⟩
theorem Qt.og {a : Nat} {w w' : World} (h : Qt w w') : Og a w w' := ⟨h.os, h.tape, h.output, h.size, fun k hk _ => h.block k hk⟩
theorem Og.alloc {a : Nat} {w w' : World} (h : Og a w w') (o : Obj) : Og a w (w'.alloc o) := h.trans ((Qt.refl _).alloc o).og
theorem Og.drew {a : Nat} {w w' : World} (h : Og a w w') : Og a w w'.drew := ⟨h.os, h.tape, h.output, h.size, h.block⟩
theorem Og.setCell {a : Nat} {w w' : World} (h : Og a w w') {p : Addr} (hp : p.block = a ∨ w.heap.size ≤ p.block) (u : Value) : Og a w (w'.setCell p u) :=
  ⟨h.os, h.tape, h.output, by have := h.size; simpa [World.setCell] using this, fun k hk hn => by
    rw [Below.heap_setCell _ _ _ _ (fun e => by
      rcases hp with hp | hp
      · exact hn (by rw [e, hp])
      · omega)]
    exact h.block k hk hn⟩
theorem Og.cell {a : Nat} {w w' : World} (h : Og a w w') {p : Addr} {v : Value} (hc : w.cell? p = some v) (hp : p.block ≠ a) : w'.cell? p = some v :=
  (World.cell?_of_block (w := w) (h.block p.block (blk_of_cell hc) (fun e => hp (by cases e; rfl)))).trans hc
theorem Og.frozen {a : Nat} {w w' : World} (h : Og a w w') {p : Addr} {b : Bool} (hc : w.frozen? p = b) (hl : p.block < w.heap.size) (hp : p.block ≠ a) : w'.frozen? p = b :=
  (World.frozen?_of_block (w := w) (h.block p.block hl (fun e => hp (by cases e; rfl)))).trans hc

/-- A block's cells. -/
def Blk (w : World) (a : Nat) (t : TypeId) (c : List Value) : Prop := w.heap[a]? = some (.cells c.toArray t (0, 0))
theorem Blk.cell {w : World} {a : Nat} {t : TypeId} {c : List Value} (h : Blk w a t c) (i : Nat) : w.cell? ⟨a, i, none⟩ = c[i]? := by
  unfold Blk at h; simp [World.cell?, h]
theorem Blk.frozen {w : World} {a : Nat} {t : TypeId} {c : List Value} (h : Blk w a t c) (i : Nat) : w.frozen? ⟨a, i, none⟩ = false := by
  unfold Blk at h; simp [World.frozen?, h]
theorem Blk.lt {w : World} {a : Nat} {t : TypeId} {c : List Value} (h : Blk w a t c) : a < w.heap.size := by
  unfold Blk at h
  exact (Array.getElem?_eq_some_iff.1 h).1
theorem Blk.qt {w w' : World} {a : Nat} {t : TypeId} {c : List Value} (h : Blk w a t c) (q : Qt w w') : Blk w' a t c := by
  have := q.block a h.lt
  unfold Blk at *; rw [this, h]
theorem Blk.og {w w' : World} {a b : Nat} {t : TypeId} {c : List Value} (h : Blk w a t c) (q : Og b w w') (hne : a ≠ b) : Blk w' a t c := by
  have := q.block a h.lt (fun e => hne (by cases e; rfl))
  unfold Blk at *; rw [this, h]
theorem Blk.set {w : World} {a : Nat} {t : TypeId} {c : List Value} (h : Blk w a t c) (i : Nat) (v : Value) : Blk (w.setCell ⟨a, i, none⟩ v) a t (c.set i v) := by
  unfold Blk at *; rw [heap_setCell_same _ _ _ _ _ _ h]; simp
theorem Blk.alloc {w : World} {a : Nat} {t : TypeId} {c : List Value} (h : Blk w a t c) (o : Obj) : Blk (w.alloc o) a t c := h.qt ((Qt.refl w).alloc o)
theorem Blk.far {w : World} {a : Nat} {t : TypeId} {c : List Value} (h : Blk w a t c) {p : Addr} (hp : a ≠ p.block) (v : Value) : Blk (w.setCell p v) a t c := by
  unfold Blk at *; rw [Below.heap_setCell _ _ _ _ hp, h]
/-- Bytes that are read lie in no such block. -/
theorem Rd.apart {w w' : World} {a : Nat} {t : TypeId} {c : List Value} {v : Value} {n : Nat} {l : List Nat} (hr : Rd w v n (u8s l)) (hb : Blk w a t c) (hc : ∀ x ∈ c, ∀ k : Int, x ≠ .int .u8 k) (q : Og a w w') : Rd w' v n (u8s l) := by
  obtain ⟨s, cap, rfl, hn, h0 | ⟨b, off, rfl, hx⟩⟩ := hr
  · exact ⟨s, cap, rfl, hn, .inl h0⟩
  · refine ⟨_, cap, rfl, hn, .inr ⟨b, off, rfl, fun j u hu => ?_⟩⟩
    have h1 := hx j u hu
    refine q.cell h1 ?_
    intro e
    have e' : b = a := e
    subst e'
    rw [hb.cell] at h1
    have hu' := List.mem_of_getElem? hu
    obtain ⟨k, _, rfl⟩ := List.mem_map.1 hu'
    exact hc _ (List.mem_of_getElem? h1) _ rfl

/-- No reader, one that nobody made, or a spoilt one. -/
def Dead (w : World) (p : Value) : Prop :=
  p = .pointer none ∨ ∃ (a : Nat) (m b : Bool) (sl : Value), p = .pointer (some ⟨a, 0, none⟩) ∧ Blk w a 69 [.bool m, .bool b, sl] ∧ (m = false ∨ b = true)

/-- What is thrown. -/
def unmet : PanicEntry := { v := .iface 90 (.agg #[]), recovered := false }
theorem must_yes (w : World) : Calls Tryz.prog 68 #[.bool true] w fun e w' => e = .returned (.tuple #[]) ∧ w = w' := by
  go_enter Tryz.func68, Tryz.ntmps68
  go_wp2
  go_end0
  exact ⟨rfl, rfl⟩
theorem must_no (w : World) : Calls Tryz.prog 68 #[.bool false] w fun e w' => e = .panicked [unmet] ∧ w = w' := by
  have H1 : ∀ w, (Instr.makeInterface 90 (.agg #[])).run Tryz.prog w = .ok (.iface 90 (.agg #[])) w := fun w => run_makeInterface w _ _ (by kernel_rfl)
  go_enter Tryz.func68, Tryz.ntmps68
  go_wp2
  exact ⟨rfl, rfl, rfl⟩
end Go.Proofs.YtajkmblcphdnbaaGreat
