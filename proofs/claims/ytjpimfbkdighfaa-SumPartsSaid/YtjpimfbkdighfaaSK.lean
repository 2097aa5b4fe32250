import Derived.Test.YtjpimfbkdighfaaSJ
namespace Go.Proofs.Ytjpimfbkdighfaa
open Go.RowKit

theorem root_to (n : Nat) : ∀ (l : List (List Nat)) (v : Value) (w : World), l.length ≤ n → l.length ≤ 2000 → Hs w v l →
    Calls Try.prog 14 #[v] w fun e w' => e = .returned (.agg (u8s (root l)).toArray) ∧ Qt w w' := by
  induction n with
  | zero =>
    intro l v w hn _ hv
    have h0 : l = [] := List.length_eq_zero_iff.1 (by omega)
    subst h0
    obtain ⟨a, c, rfl, _⟩ := hv.rd
    exact root0_any a c w
  | succ n ih =>
    intro l v w hn h2 hv
    by_cases h0 : l.length = 0
    · exact ih l v w (by omega) h2 hv
    · by_cases h1 : l.length = 1
      · obtain ⟨h, rfl⟩ := List.length_eq_one_iff.1 h1
        exact root1_any h v w hv
      · exact rootStep l v w (by omega) h2 hv (fun l' v' w' hl' hv' => ih l' v' w' (by omega) (by omega) hv')
/-- THE ROOT of any row of hashes. -/
theorem root_any (l : List (List Nat)) (v : Value) (w : World) (h : l.length ≤ 2000) (hv : Hs w v l) :
    Calls Try.prog 14 #[v] w fun e w' => e = .returned (.agg (u8s (root l)).toArray) ∧ Qt w w' := root_to l.length l v w (Nat.le_refl _) h hv
end Go.Proofs.Ytjpimfbkdighfaa
