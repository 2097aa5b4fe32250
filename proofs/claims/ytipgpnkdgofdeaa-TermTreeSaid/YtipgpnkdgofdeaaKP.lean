import Derived.Test.YtipgpnkdgofdeaaPQ
import Derived.Test.YtipgpnkdgofdeaaKC
/-! Plain laws of TermTree. -/
namespace Go.Proofs.Ytipgpnkdgofdeaa.Tm
open Go.RowKit Go.Proofs.Ytipgpnkdgofdeaa.Fl
set_option linter.unusedVariables false
set_option linter.unusedSimpArgs false

theorem opn_app {l : List Nd} {t : Tr} (m : Nd) (h : opn l = some t) : opn (l ++ [m]) = none := by
  obtain ⟨rfl, cw⟩ := opn_iff.1 h
  unfold opn
  rw [par_of t _ [m] (by rw [List.length_append]; omega) cw]
  rfl
theorem opn_drop {l : List Nd} {t : Tr} (h : opn l = some t) : opn l.dropLast = none := by
  have hne : l ≠ [] := by
    have h1 := opn_flat h
    have h2 := flat_pos t
    intro e
    rw [← h1, e] at h2
    simp at h2
  cases hn : opn l.dropLast with
  | none => rfl
  | some u =>
    exfalso
    have e := opn_app (l.getLast hne) hn
    rw [List.dropLast_concat_getLast hne, h] at e
    cases e
theorem cws_get : ∀ {ks : List Tr}, CWs ks → ∀ k ∈ ks, CW k
  | [], _, k, hk => by cases hk
  | k' :: ks, h, k, hk => by
    rcases List.mem_cons.1 hk with rfl | hk
    · exact h.1
    · exact cws_get h.2 k hk
theorem deepL_some {l : List Nd} {t : Tr} (h : opn l = some t) : deepL l = dep t := by unfold deepL; rw [h]
section
variable {l : List Nd} {n : Nd} {ks : List Tr} (h : opn l = some (.mk n ks))
include h
theorem tree_kids : kidsL l = ks.map Tr.flat := by unfold kidsL; rw [h]; rfl
theorem tree_head : ∃ r, l = n :: r ∧ r = flats ks := ⟨_, (opn_flat h).trans (by rw [Tr.flat]), rfl⟩
theorem tree_count : n.f4 = (ks.length : Int) := (opn_cw h).1
theorem tree_kid {k : Tr} (hk : k ∈ ks) : opn k.flat = some k := opn_of (cws_get (opn_cw h).2 k hk)
theorem tree_kid_deep {k : Tr} (hk : k ∈ ks) : deepL k.flat = dep k := deepL_some (tree_kid h hk)
theorem tree_deep : deepL l = deps ks + 1 := by rw [deepL_some h, dep]
theorem tree_join : joinL n (ks.map Tr.flat) = l := by
  obtain ⟨r, e, hr⟩ := tree_head h
  unfold joinL
  rw [e, hr, flats_flat, List.length_map, ← tree_count h]
theorem tree_up (m : Nd) : deepL (joinL m [l, l]) = deps ks + 2 := by
  have hl := opn_flat h
  have e : joinL m [l, l] = (joinT m [.mk n ks, .mk n ks]).flat := by
    rw [← joinL_flat, hl]; rfl
  rw [e, deepL_some (opn_join m [.mk n ks, .mk n ks] ⟨opn_cw h, opn_cw h, trivial⟩)]
  simp only [joinT, dep, deps]
  omega
theorem tree_same (hw : WfL l) : sameL l l = true := by rw [sameL_ord h h, ordL_self hw]; rfl
theorem tree_long (m : Nd) : deepL (l ++ [m]) = 0 := deepL_zero.2 (opn_app m h)
theorem tree_short : deepL l.dropLast = 0 := deepL_zero.2 (opn_drop h)
theorem tree_kid_at (j : Nat) : kidL l (j : Int) = (ks[j]?).map Tr.flat := by
  unfold kidL
  rw [if_neg (by omega), tree_kids h, Int.toNat_natCast, List.getElem?_map]
end
theorem tree_none {l : List Nd} (h : opn l = none) : kidsL l = [] ∧ kidL l 0 = none ∧ (∀ a b, fitsL l a b = false) ∧ sameL l l = false ∧ deepL l = 0 := by
  have e : kidsL l = [] := by unfold kidsL; rw [h]
  refine ⟨e, ?_, fun a b => ?_, ?_, deepL_zero.2 h⟩
  · unfold kidL; rw [e]; rfl
  · unfold fitsL; rw [h]; simp
  · unfold sameL; rw [h]
theorem deps_take {ks : List Tr} {j : Nat} {k : Tr} (hk : ks[j]? = some k) : deps (ks.take (j + 1)) = max (deps (ks.take j)) (dep k) := by
  rw [take_next hk, deps_app]
  simp [deps]
end Go.Proofs.Ytipgpnkdgofdeaa.Tm
