import Derived.Test.YtipgpnkdgofdeaaRows
import Derived.WalkKit
import Derived.WalkLawsBesides
import Derived.WalkSpells
import Derived.Below
import Derived.Defers
import Derived.Recover
import Derived.Deep.QuietTactic
import Derived.BigQuiet
import Derived.Laws.Cover2
import Derived.KernelRfl
import Derived.Lib.Hide
namespace Go.Proofs.Ytipgpnkdgofdeaa.Fl
open Go.RowKit

/-- Nothing that was there has turned. -/
def Qt (w w' : World) : Prop := Below w.heap.size w w'
theorem Qt.refl (w : World) : Qt w w := Below.refl _ _
theorem Qt.trans {a b c : World} (h : Qt a b) (k : Qt b c) : Qt a c := Below.trans h (Below.mono k h.size)

@[go_sem] theorem fb_run (n : Int) (w : World) : (callFunc 47 #[.int .u64 n]).run Try.prog w = .ok (.value (.float .f64 n.toNat)) w := by kernel_rfl
@[go_sem] theorem tb_run (n : Nat) (w : World) : (callFunc 69 #[.float .f64 n]).run Try.prog w = .ok (.value (.int .u64 n)) w := by kernel_rfl

/-- A number's bits, every NaN as one. -/
def fbits (b : Nat) : Int := if FloatKind.f64.format.order b b = some .eq then (b : Int) else 9221120237041090560

theorem bits_any (b : Nat) (w : World) : Calls Try.prog 46 #[.float .f64 b] w fun e w' => e = .returned (.int .u64 (fbits b)) ∧ w = w' := by
  by_cases h : FloatKind.f64.format.order b b = some .eq
  · have hb : (FloatKind.f64.format.order b b != some .eq) = false := by simp [h]
    go_enter Try.func46, Try.ntmps46
    go_wp2
    go_ret
    exact ⟨by rw [fbits, if_pos h]; rfl, rfl⟩
  · have hb : (FloatKind.f64.format.order b b != some .eq) = true := by simp [h]
    go_enter Try.func46, Try.ntmps46
    go_wp2
    go_ret
    exact ⟨by rw [fbits, if_neg h]; rfl, rfl⟩

theorem info38 : (Try.prog.info? 66).map (fun i => (i.zero, i.size, i.bytes)) = some (some (.float .f64 0), 1, 8) := by kernel_rfl

theorem own_base {w : World} {base : Nat} {e : TypeId} {size : Nat} {v : Value} {n : Nat} {xs : List Value} (h : w.ownsRow base e size v n xs) {B : Nat} (hB : B ≤ base) : ∀ k, v.ownBlock = some k → B ≤ k := by
  intro k hk
  rcases h.2 with ⟨rfl, _⟩ | ⟨g, cap, cur, rfl, hg, _⟩
  · cases hk
  · simp [Value.ownBlock] at hk; omega
theorem own_cells {w : World} {base : Nat} {e : TypeId} {v : Value} {n : Nat} {xs : List Value} (h : w.ownsRow base e 1 v n xs) (hn : 0 < n) :
    ∃ g cap, v = .slice (some ⟨g, 0, none⟩) n cap ∧ base ≤ g ∧ ∀ j, j < n → w.cell? ⟨g, j, none⟩ = xs[j]? := by
  obtain ⟨hl, ⟨rfl, rfl⟩ | ⟨g, cap, cur, rfl, hg, hh, hn', hm, hs, ht⟩⟩ := h
  · omega
  · refine ⟨g, cap, rfl, hg, fun j hj => ?_⟩
    subst ht
    simp [World.cell?, hh, hj]

/-- What a closure over a row of floats tells: X, as bits. -/
def Clo (k : FuncId) (xs : List Int) (X : Int) : Prop := ∀ (g cap : Nat) (w1 : World),
  (∀ j, j < xs.length → w1.cell? ⟨g, j, none⟩ = some (.float .f64 (xs.getD j 0).toNat)) →
  Calls Try.prog k #[.slice (some ⟨g, 0, none⟩) xs.length cap] w1 fun e w2 => ∃ r : Nat, e = .returned (.float .f64 r) ∧ fbits r = X ∧ Qt w1 w2

end Go.Proofs.Ytipgpnkdgofdeaa.Fl
