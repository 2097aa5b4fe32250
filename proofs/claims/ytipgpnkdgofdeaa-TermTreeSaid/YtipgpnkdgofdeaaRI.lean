import Derived.Test.YtipgpnkdgofdeaaAW
/-! A drawn region whose operations come up in many orders, by one invariant over the set of those that have come up. -/
namespace Go.Proofs.Ytipgpnkdgofdeaa.Tm
open Go.RowKit
set_option linter.unusedVariables false
set_option linter.unusedSimpArgs false

section
variable {P : Program} {md : Region.Mode} {ops : Array Oper} {Q : Exit → Act → World → Prop} {S : World → Prop}
theorem wpAnyH_inv (Inv : Array Bool → Act → World → Prop) (left : Array Bool → Nat) (kf : Nat)
    (hz : ∀ listed a w, Inv listed a w → left listed = 0 → wpAnyH P md ops Q S kf listed a w)
    (hs : ∀ listed a w n, Inv listed a w → left listed = n + 1 → Region.ready md ops listed ≠ [] ∧ ∀ i ∈ Region.ready md ops listed, wpOp P ops Q i (fun a' w' => S w' ∧ Inv (listed.setIfInBounds i true) a' w' ∧ left (listed.setIfInBounds i true) = n) a w) :
    ∀ (n : Nat) (listed : Array Bool) (a : Act) (w : World), Inv listed a w → left listed = n → wpAnyH P md ops Q S (n + kf) listed a w
  | 0, listed, a, w, h, hl => by rw [Nat.zero_add]; exact hz listed a w h hl
  | n + 1, listed, a, w, h, hl => by
    obtain ⟨hne, hall⟩ := hs listed a w n h hl
    rw [show n + 1 + kf = (n + kf) + 1 from by omega]
    refine ⟨fun h0 => absurd h0 hne, fun i hi => wpOp_mono (fun a' w' h' => ⟨h'.1, ?_⟩) (hall i hi)⟩
    exact wpAnyH_inv Inv left kf hz hs n _ a' w' h'.2.1 h'.2.2
end
/-- Two states of a call that hold the same in each slot. -/
theorem act_ext {a b : Act} (hs : a.tmps.size = b.tmps.size) (hd : a.defers = b.defers) (h : ∀ s, a.eval (.tmp s) = b.eval (.tmp s)) : a = b := by
  obtain ⟨ta, da⟩ := a
  obtain ⟨tb, db⟩ := b
  simp only at hs hd
  subst hd
  congr 1
  apply Array.ext hs
  intro i h1 h2
  have := h i
  simp only [Act.eval, Array.getD, h1, h2, dif_pos] at this
  exact this
end Go.Proofs.Ytipgpnkdgofdeaa.Tm
