import Derived.Test.YtipgpnkdgofdeaaTM
import Derived.Test.YtipgpnkdgofdeaaFO
/-! Reals as terms: plain laws. -/
namespace Go.Proofs.Ytipgpnkdgofdeaa.Tm
open Go.RowKit Go.Proofs.Ytipgpnkdgofdeaa.Fl
set_option linter.unusedVariables false
set_option linter.unusedSimpArgs false

theorem fbits_right' (a : Nat) : fbits (fbits a).toNat = fbits a := by
  by_cases h : rg a ≤ rinf
  · rw [fbits_ok h, Int.toNat_natCast, fbits_ok h]
  · rw [fbits_nan (r := a) (by omega)]; decide +kernel
theorem fbits_wd' (a : Int) (ha : Wd a) : Wd (fbits a.toNat) := by
  by_cases h : rg a.toNat ≤ rinf
  · rw [fbits_ok h]; exact ⟨by omega, by have := ha.2; omega⟩
  · rw [fbits_nan (r := a.toNat) (by omega)]; exact ⟨by decide, by decide⟩
def real1 (b : Int) : List Nd := [⟨3, 0, b, ⟨#[]⟩, 0⟩]
theorem opn_real (b : Int) : opn (real1 b) = some (.mk ⟨3, 0, b, ⟨#[]⟩, 0⟩ []) := rfl
theorem fits_real (b : Int) : fitsL (real1 b) 100 16 = (fbits b.toNat == b) := by
  unfold fitsL
  rw [opn_real]
  have e1 : decide (((real1 b).length : Int) ≤ 100) = true := by simp [real1]
  have e2 : decide ((dep (.mk ⟨3, 0, b, ⟨#[]⟩, 0⟩ []) : Int) ≤ 16) = true := by simp [dep, deps]
  have e3 : rightT (.mk ⟨3, 0, b, ⟨#[]⟩, 0⟩ []) = (fbits b.toNat == b) := by
    rw [rightT, rights, Bool.and_true]
    unfold kOk kfn kQ kA kB kS lz
    simp
  rw [e1, Bool.true_and]
  show (decide _ && _) = _
  rw [e2, Bool.true_and, e3]
theorem ord_real (x y : Int) : ordL (real1 x) (real1 y) = ford x y := by
  unfold ordL
  rw [opn_real, opn_real]
  show ord _ _ = _
  rw [ord]
  have e : ncmp ⟨3, 0, x, ⟨#[]⟩, 0⟩ ⟨3, 0, y, ⟨#[]⟩, 0⟩ = ford x y := by
    unfold ncmp icmp bcmp
    simp only [Int.lt_irrefl, if_false, fnz, if_true, Lib.compareBytes]
    split
    · rename_i h; exact h.symm
    · rfl
  rw [e, ords]
  split
  · rename_i h; exact h.symm
  · rfl
theorem same_real (x y : Int) (hx : Wd x) (hy : Wd y) (cx : fbits x.toNat = x) (cy : fbits y.toNat = y) : sameL (real1 x) (real1 y) = (x == y) := by
  have h := ord_real x y
  unfold ordL at h
  unfold sameL
  rw [opn_real, opn_real] at h ⊢
  simp only at h ⊢
  rw [h, Bool.eq_iff_iff, beq_iff_eq, beq_iff_eq, ford_zero hx hy, cx, cy]
/-- When the same number stands for another term. -/
theorem same_cases (x y : Int) (hx : Wd x) (hy : Wd y) (cx : fbits x.toNat = x) (cy : fbits y.toNat = y) :
    fsame x y = (x == y) ∨ (x = 9221120237041090560 ∧ y = 9221120237041090560 ∧ fsame x y = false) ∨ (x = 0 ∧ y = 9223372036854775808 ∧ fsame x y = true) ∨ (x = 9223372036854775808 ∧ y = 0 ∧ fsame x y = true) := by
  have h1 := same_eq hx hy
  have h2 := ford_zero hx hy
  rw [cx, cy] at h2
  have e2 := mm_iff hx hy
  have hn : nn x y = true ↔ x = 9221120237041090560 ∨ y = 9221120237041090560 := by
    unfold nn; rw [cx, cy, Bool.or_eq_true, beq_iff_eq, beq_iff_eq]
  have hm0 : mm 9221120237041090560 9221120237041090560 = false := by decide +kernel
  by_cases he : x = y
  · subst he
    have h0 : ford x x = 0 := h2.2 rfl
    cases hnn : nn x x with
    | false => left; rw [h1, hnn, h0]; simp
    | true =>
      have : x = 9221120237041090560 := by rcases hn.1 hnn with h | h <;> exact h
      right; left
      exact ⟨this, this, by rw [h1, hnn]; rfl⟩
  · have h0 : ¬ ford x y = 0 := fun h => he (h2.1 h)
    have h0b : (ford x y == 0) = false := by simpa using h0
    have heb : (x == y) = false := by simpa using he
    cases hm : mm x y with
    | false => left; rw [h1, heb, h0b, hm]; simp
    | true =>
      obtain ⟨r1, r2⟩ := e2.1 hm
      have hnn : nn x y = false := by
        cases h : nn x y with
        | false => rfl
        | true =>
          rcases hn.1 h with h | h
          · rw [h] at r1; exact absurd r1 (by decide +kernel)
          · rw [h] at r2; exact absurd r2 (by decide +kernel)
      have hf : fsame x y = true := by rw [h1, hnn, hm]; simp
      have c1 : x = 0 ∨ x = 9223372036854775808 := by
        unfold rg at r1; have := hx.1; have := hx.2; omega
      have c2 : y = 0 ∨ y = 9223372036854775808 := by
        unfold rg at r2; have := hy.1; have := hy.2; omega
      rcases c1 with rfl | rfl <;> rcases c2 with rfl | rfl
      · exact absurd rfl he
      · right; right; left; exact ⟨rfl, rfl, hf⟩
      · right; right; right; exact ⟨rfl, rfl, hf⟩
      · exact absurd rfl he
end Go.Proofs.Ytipgpnkdgofdeaa.Tm
