import Derived.Test.YtjpimfbkdighfaaRH
import Derived.Test.YtjpimfbkdighfaaH
import Derived.Deep.DeepCutAuto
namespace Go.Proofs.Ytjpimfbkdighfaa
open Go.RowKit

/-- Where a row of n hashes is cut. -/
def half (n : Nat) : Nat := 2 ^ Nat.log2 (n - 1)
theorem half_pos (n : Nat) : 0 < half n := Nat.two_pow_pos _
theorem half_lt {n : Nat} (h : 2 ≤ n) : half n < n := by
  have := Nat.log2_self_le (n := n - 1) (by omega)
  unfold half
  omega
theorem log2_lt {n : Nat} (h : n < 4294967296) : Nat.log2 n < 32 := by
  by_cases h0 : n = 0
  · subst h0; decide
  · exact (Nat.log2_lt h0).2 (by omega)
def rootF : Nat → List (List Nat) → List Nat
  | 0, _ => []
  | f + 1, l => if l.length = 0 then sha [0] else if l.length = 1 then sha (1 :: l.flatten) else sha ([2] ++ rootF f (l.take (half l.length)) ++ rootF f (l.drop (half l.length)))
theorem rootF_more (f : Nat) : ∀ (g : Nat) (l : List (List Nat)), l.length < f → f ≤ g → rootF f l = rootF g l := by
  induction f with
  | zero => intro g l h; omega
  | succ f ih =>
    intro g l h hg
    obtain ⟨g, rfl⟩ : ∃ k, g = k + 1 := ⟨g - 1, by omega⟩
    rw [rootF, rootF]
    by_cases h0 : l.length = 0
    · rw [if_pos h0, if_pos h0]
    · by_cases h1 : l.length = 1
      · rw [if_neg h0, if_neg h0, if_pos h1, if_pos h1]
      · rw [if_neg h0, if_neg h0, if_neg h1, if_neg h1]
        have h2 := half_lt (n := l.length) (by omega)
        have h3 := half_pos l.length
        rw [ih g (l.take (half l.length)) (by rw [List.length_take]; omega) (by omega), ih g (l.drop (half l.length)) (by rw [List.length_drop]; omega) (by omega)]
/-- THE ROOT. -/
def root (l : List (List Nat)) : List Nat := rootF (l.length + 1) l
theorem root_nil : root [] = sha [0] := rfl
theorem root_one (h : List Nat) : root [h] = sha (1 :: h) := by
  unfold root
  rw [rootF]
  simp
theorem root_more {l : List (List Nat)} (h : 2 ≤ l.length) : root l = sha ([2] ++ root (l.take (half l.length)) ++ root (l.drop (half l.length))) := by
  have h2 := half_lt h
  have h3 := half_pos l.length
  have e1 := (rootF_more ((l.take (half l.length)).length + 1) l.length (l.take (half l.length)) (by omega) (by rw [List.length_take]; omega)).symm
  have e2 := (rootF_more ((l.drop (half l.length)).length + 1) l.length (l.drop (half l.length)) (by omega) (by rw [List.length_drop]; omega)).symm
  unfold root
  rw [rootF, if_neg (by omega), if_neg (by omega), e1, e2]
theorem root_len (l : List (List Nat)) : (root l).length = 32 := by
  by_cases h0 : l.length = 0
  · rw [List.length_eq_zero_iff.1 h0, root_nil, sha_len]
  · by_cases h1 : l.length = 1
    · obtain ⟨a, rfl⟩ := List.length_eq_one_iff.1 h1
      rw [root_one, sha_len]
    · rw [root_more (by omega), sha_len]
theorem root_lt (l : List (List Nat)) : ∀ x ∈ root l, x < 256 := by
  by_cases h0 : l.length = 0
  · rw [List.length_eq_zero_iff.1 h0, root_nil]; exact sha_lt _
  · by_cases h1 : l.length = 1
    · obtain ⟨a, rfl⟩ := List.length_eq_one_iff.1 h1
      rw [root_one]; exact sha_lt _
    · rw [root_more (by omega)]; exact sha_lt _
end Go.Proofs.Ytjpimfbkdighfaa
