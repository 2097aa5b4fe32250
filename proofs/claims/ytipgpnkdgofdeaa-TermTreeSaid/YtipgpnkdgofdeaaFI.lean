import Derived.Test.YtipgpnkdgofdeaaFU
namespace Go.Proofs.Ytipgpnkdgofdeaa.Fl
open Go.RowKit

/-- What Int tells: a whole number, or none. -/
def fint (a : Int) : Option Int :=
  if FloatKind.f64.format.order a.toNat 14114281232179134464 = some .gt ∨ FloatKind.f64.format.order a.toNat 14114281232179134464 = some .eq then
    if FloatKind.f64.format.order a.toNat 4890909195324358656 = some .lt then floatToIntVal .f64 a.toNat .i64 else none
  else none

@[go_sem] theorem run_store_float {P : Program} (a : Addr) (m : Mode) (w : World) (k : FloatKind) (n : Nat) : (store a (.float k n) m).run P w = stored P w a (.float k n) m := run_store P w a _ m rfl
theorem cell_alFl {w : World} {a : Addr} {v : Value} (h : w.cell? a = some v) (ha : a.block < w.heap.size) (o : Obj) : (w.alloc o).cell? a = some v :=
  (World.cell?_of_block (w := w) (Below.heap_alloc w o a.block ha)).trans h
theorem frozen_alFl {w : World} {a : Addr} {b : Bool} (h : w.frozen? a = b) (ha : a.block < w.heap.size) (o : Obj) : (w.alloc o).frozen? a = b :=
  (World.frozen?_of_block (w := w) (Below.heap_alloc w o a.block ha)).trans h

theorem in_range {x : Nat} (h1 : (FloatKind.f64.format.order x 14114281232179134464 == some .gt || FloatKind.f64.format.order x 14114281232179134464 == some .eq) = true)
    (h2 : (FloatKind.f64.format.order x 4890909195324358656 == some .lt) = true) : floatToIntVal .f64 x .i64 ≠ none := by
  have h1' : FloatKind.f64.format.order x 14114281232179134464 = some .gt ∨ FloatKind.f64.format.order x 14114281232179134464 = some .eq := by simpa using h1
  have h2' : FloatKind.f64.format.order x 4890909195324358656 = some .lt := by simpa using h2
  obtain ⟨n, hn, hlo, hhi⟩ := int_range h1' h2'
  unfold floatToIntVal
  rw [show (FloatKind.f64.decode x).toInt .zero = some n from hn]
  have e1 : IntKind.i64.min = -9223372036854775808 := rfl
  have e2 : IntKind.i64.max = 9223372036854775807 := rfl
  simp only [e1, e2]
  rw [if_pos ⟨hlo, by omega⟩]
  simp

end Go.Proofs.Ytipgpnkdgofdeaa.Fl
