import Derived.Test.YtjpimfbkdighfaaO
import Derived.OpenShut
/-! Whole numbers, bytes that come in, read. -/
namespace Go.Proofs.Ytjpimfbkdighfaa
open Go.RowKit Go.Deep Go.ChangeShapes Go.WideShapes

section
variable {H : Type} {enc : TypeId × Value → H} {P : Program} {w : World} {held : Bool}

theorem open_nums {t e : TypeId} {k : IntKind} {v : Value} {d : DataW H} {ps : List MemPlace} (ht : P.underlying t = some (.slice e)) (he : P.underlying e = some (.int k)) (ce : P.cellsOf e = 1)
    (hv : ∃ a n c, v = .slice a n c) (h : DataW.Trod enc P w 0 (fun _ => true) held t v d ps) :
    ∃ zs : List Int, Rd w v zs.length (zs.map (Value.int k)) ∧ (∀ n ∈ zs, (Lit.int k n).wf = true) ∧ zs.length ≤ 9223372036854775807 ∧ ∀ a n c, v = .slice a n c → n ≤ c ∧ c ≤ 9223372036854775807 ∧ (a = none → c = 0) := by
  obtain ⟨a0, n0, c0, rfl⟩ := hv
  obtain ⟨fuel, hf⟩ := h
  rcases open_ints ht he ce hf with ⟨hcs, _⟩ | ⟨a, len, cap, zs, hcs, _, hl, hm, hz, _, hcell, hwf⟩
  · simp [Value.cells] at hcs
    obtain ⟨rfl, rfl, rfl⟩ := hcs
    exact ⟨[], ⟨none, 0, rfl, Nat.le_refl _, .inl rfl⟩, (fun n hn => by cases hn), Nat.zero_le _, fun a n c h => by cases h; exact ⟨Nat.le_refl _, Nat.zero_le _, fun _ => rfl⟩⟩
  · simp [Value.cells] at hcs
    obtain ⟨rfl, rfl, rfl⟩ := hcs
    unfold maxLen at hm
    simp at hz
    have htl : (zs.take n0).length = n0 := by rw [List.length_take, hz]; omega
    refine ⟨zs.take n0, ⟨some a, c0, by rw [htl], by rw [htl]; exact hl, ?_⟩, fun n hn => hwf n (List.mem_of_mem_take hn), by rw [htl]; omega, fun a' n c h => by cases h; exact ⟨hl, hm, fun h => by cases h⟩⟩
    by_cases h0 : n0 = 0
    · left; subst h0; simp
    · right
      obtain ⟨b, off, rfl⟩ := addr_plain (hcell 0 (by omega))
      refine ⟨b, off, rfl, fun j u hu => ?_⟩
      have hj : j < n0 := by
        have := (List.getElem?_eq_some_iff.1 hu).1
        rw [List.length_map, htl] at this; exact this
      rw [← add_plain, hcell j (by omega), ← hu, List.getElem?_map, List.getElem?_take, if_pos hj, List.getD_eq_getElem?_getD, List.getElem?_eq_getElem (by omega)]
      rfl

theorem open_bytes {t e : TypeId} {v : Value} {d : DataW H} {ps : List MemPlace} (ht : P.underlying t = some (.slice e)) (he : P.underlying e = some (.int .u8)) (ce : P.cellsOf e = 1)
    (hv : ∃ a n c, v = .slice a n c) (h : DataW.Trod enc P w 0 (fun _ => true) held t v d ps) :
    ∃ xs : List Nat, Rd w v xs.length (u8s xs) ∧ (∀ x ∈ xs, x < 256) ∧ xs.length ≤ 9223372036854775807 ∧ ∀ a n c, v = .slice a n c → n ≤ c ∧ c ≤ 9223372036854775807 ∧ (a = none → c = 0) := by
  obtain ⟨zs, h1, h2, h3, h4⟩ := open_nums ht he ce hv h
  obtain ⟨xs, rfl, e2, e3⟩ := bytes_of h2
  refine ⟨xs, ?_, e3, by rw [e2]; exact h3, h4⟩
  rw [List.length_map, List.map_map] at h1
  exact h1

/-- How long a slice that came in may be. -/
theorem sized_one {ts : List TypeId} {ds : List (DataW H)} {j : Nat} {t e : TypeId} {v : Value} {d : DataW H} {ps : List MemPlace} (ht : P.underlying t = some (.slice e)) (he : P.underlying e = some (.int .u8)) (ce : P.cellsOf e = 1) (be : P.bytesOf e = 1)
    (hsz : (DataW.weightsEach P ts ds).all (· ≤ reachBytes) = true) (htj : ts[j]? = some t) (hdj : ds[j]? = some d) (a : Option Addr) (n c : Nat) (hv : v = .slice a n c) (h : DataW.Trod enc P w 0 (fun _ => true) held t v d ps) : n ≤ 140737488351232 := by
  subst hv
  obtain ⟨fuel, hf⟩ := h
  rcases open_ints ht he ce hf with ⟨hcs, _⟩ | ⟨a, len, cap, zs, hcs, _, hl, hm, hz, hx, hcell, hwf⟩
  · simp [Value.cells] at hcs
    obtain ⟨rfl, rfl, rfl⟩ := hcs
    omega
  · simp [Value.cells] at hcs
    obtain ⟨rfl, rfl, rfl⟩ := hcs
    obtain ⟨hx, _⟩ := Prod.mk.inj hx
    subst hx
    have := sized_slice hsz htj hdj ht
    simp at hz
    rw [be] at this
    simp [lits, hz] at this
    have hr : reachBytes = 140737488351232 := by decide
    omega
end
end Go.Proofs.Ytjpimfbkdighfaa
