import Derived.Test.YtipgpnkdgofdeaaRI
import Derived.Test.YtipgpnkdgofdeaaQA
/-! A drawn region that makes memory in many orders: each operation's answer told by a word that stays. -/
namespace Go.Proofs.Ytipgpnkdgofdeaa.Tm
open Go.RowKit
set_option linter.unusedVariables false
set_option linter.unusedSimpArgs false

section
variable {P : Program} {md : Region.Mode} {ops : Array Oper} {Q : Exit → Act → World → Prop} {S : World → Prop}
theorem wpAnyH_free (K KA : List Nat) (pre : Nat → List Nat) (slot : Nat → Nat) (R : Nat → Value → World → Prop) (Ls : List (Array Bool)) (left : Array Bool → Nat) (F : Act) (w0 : World) (kf : Nat)
    (hR : ∀ i v w w', R i v w → Qt w w' → R i v w') (hS : ∀ w, Qt w0 w → S w)
    (hsl : ∀ i ∈ K, slot i < F.tmps.size) (hsd : ∀ i ∈ K, ∀ j ∈ K, i ≠ j → slot i ≠ slot j) (hKA : ∀ i ∈ KA, i ∈ K)
    (hne : ∀ listed ∈ Ls, left listed ≠ 0 → Region.ready md ops listed ≠ [])
    (hrdy : ∀ listed ∈ Ls, left listed ≠ 0 → ∀ i ∈ Region.ready md ops listed, i ∈ K ∧ listed.setIfInBounds i true ∈ Ls ∧ left (listed.setIfInBounds i true) + 1 = left listed ∧ ∀ j ∈ pre i, j ∈ K ∧ listed[j]? = some true)
    (hop : ∀ i ∈ K, ∀ (a : Act) (w : World) (K' : Act → World → Prop), Qt w0 w → a.tmps.size = F.tmps.size → (∀ s, (∀ i ∈ K, slot i ≠ s) → a.eval (.tmp s) = F.eval (.tmp s)) → (∀ j ∈ pre i, R j (a.eval (.tmp (slot j))) w) →
      (∀ v w', Qt w w' → R i v w' → (i ∈ KA → ∀ j ∈ KA, ∀ u, R j u w → v ≠ u) → K' (a.put (some (slot i)) v) w') → wpOp P ops Q i K' a w)
    (hend : ∀ listed ∈ Ls, left listed = 0 → ∀ i ∈ K, listed[i]? = some true)
    (hz : ∀ listed ∈ Ls, left listed = 0 → ∀ (a : Act) (w : World), a.tmps.size = F.tmps.size → a.defers = F.defers → (∀ s, (∀ i ∈ K, slot i ≠ s) → a.eval (.tmp s) = F.eval (.tmp s)) → Qt w0 w → (∀ i ∈ K, R i (a.eval (.tmp (slot i))) w) →
      (∀ i ∈ KA, ∀ j ∈ KA, i ≠ j → a.eval (.tmp (slot i)) ≠ a.eval (.tmp (slot j))) → wpAnyH P md ops Q S kf listed a w)
    (n : Nat) (listed : Array Bool) (hl : listed ∈ Ls) (hn : left listed = n) (h0 : ∀ i ∈ K, listed[i]? ≠ some true) : wpAnyH P md ops Q S (n + kf) listed F w0 := by
  refine wpAnyH_inv (fun listed a w => listed ∈ Ls ∧ a.tmps.size = F.tmps.size ∧ a.defers = F.defers ∧ (∀ s, (∀ i ∈ K, slot i ≠ s) → a.eval (.tmp s) = F.eval (.tmp s)) ∧ Qt w0 w ∧ (∀ i ∈ K, listed[i]? = some true → R i (a.eval (.tmp (slot i))) w) ∧
    (∀ i ∈ KA, ∀ j ∈ KA, i ≠ j → listed[i]? = some true → listed[j]? = some true → a.eval (.tmp (slot i)) ≠ a.eval (.tmp (slot j)))) left kf ?_ ?_ n listed F w0
    ⟨hl, rfl, rfl, fun _ _ => rfl, Qt.refl w0, fun i hi h => absurd h (h0 i hi), fun i hi j hj _ h => absurd h (h0 i (hKA i hi))⟩ hn
  · rintro listed a w ⟨h1, h2, h3, h4, h5, h6, h7⟩ hl0
    have he := hend listed h1 hl0
    exact hz listed h1 hl0 a w h2 h3 h4 h5 (fun i hi => h6 i hi (he i hi)) fun i hi j hj hij => h7 i hi j hj hij (he i (hKA i hi)) (he j (hKA j hj))
  · rintro listed a w m ⟨h1, h2, h3, h4, h5, h6, h7⟩ hl0
    refine ⟨hne listed h1 (by omega), fun i hi => ?_⟩
    obtain ⟨g1, g2, g3, g4⟩ := hrdy listed h1 (by omega) i hi
    refine hop i g1 a w _ h5 h2 h4 (fun j hj => h6 j (g4 j hj).1 (g4 j hj).2) fun v w' q hr hfr => ?_
    have hsz : slot i < a.tmps.size := by rw [h2]; exact hsl i g1
    have hget : ∀ j, j ≠ i → (listed.setIfInBounds i true)[j]? = listed[j]? := fun j hj => by rw [Array.getElem?_setIfInBounds, if_neg (fun e => hj e.symm)]
    refine ⟨hS _ (h5.trans q), ⟨g2, by simpa [Act.put] using h2, by simpa [Act.put] using h3, fun s hs => (evO (fun e => hs i g1 e)).trans (h4 s hs), h5.trans q, fun j hj hjl => ?_, fun j hj k hk hjk hjl hkl => ?_⟩, by omega⟩
    · by_cases hji : j = i
      · subst hji; rw [evS hsz]; exact hr
      · rw [evO (hsd i g1 j hj (fun e => hji e.symm))]
        rw [hget j hji] at hjl
        exact hR _ _ _ _ (h6 j hj hjl) q
    · by_cases hji : j = i
      · subst hji
        have hki : k ≠ j := fun e => hjk e.symm
        rw [hget k hki] at hkl
        rw [evS hsz, evO (hsd j g1 k (hKA k hk) hjk)]
        exact hfr hj k hk _ (h6 k (hKA k hk) hkl)
      · rw [hget j hji] at hjl
        by_cases hki : k = i
        · subst hki
          rw [evS hsz, evO (hsd k g1 j (hKA j hj) (fun e => hjk e.symm))]
          exact fun e => hfr hk j hj _ (h6 j (hKA j hj) hjl) e.symm
        · rw [hget k hki] at hkl
          rw [evO (hsd i g1 j (hKA j hj) (fun e => hji e.symm)), evO (hsd i g1 k (hKA k hk) (fun e => hki e.symm))]
          exact h7 j hj k hk hjk hjl hkl
end
end Go.Proofs.Ytipgpnkdgofdeaa.Tm
