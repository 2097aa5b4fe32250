import Derived.Test.YtjpimfbkdighfaaO
import Derived.Test.YtjpimfbkdighfaaHC
import Derived.OpenShut
/-! Hashes that come in, read. -/
namespace Go.Proofs.Ytjpimfbkdighfaa
open Go.RowKit Go.Deep Go.ChangeShapes Go.WideShapes

section
variable {H : Type} {enc : TypeId × Value → H} {P : Program} {w : World} {held : Bool} {base : Nat} {spare : Nat → Bool}

theorem open_hash_cells {t e : TypeId} {fuel : Nat} {cs : List Value} {x : DataW H × List MemPlace} (ht : P.underlying t = some (.array 32 e)) (he : P.underlying e = some (.int .u8)) (ce : P.cellsOf e = 1) (ct : P.cellsOf t = 32)
    (h : DataW.trod enc P w base spare held fuel t cs = some x) : ∃ hh : List Nat, hh.length = 32 ∧ (∀ x ∈ hh, x < 256) ∧ cs = u8s hh := by
  obtain ⟨xs, m, rfl, _, hl, hn, hi⟩ := DataW.trod_array ht h
  rw [ct] at hl
  have hb : ∀ i, i < 32 → ∃ y : Nat, y < 256 ∧ cs[i]? = some (.int .u8 (y : Int)) := fun i hi' => by
    have h1 := hi i hi'
    rw [ce, Nat.mul_one, List.getElem?_eq_getElem (by omega)] at h1
    obtain ⟨z, hz, _, hw⟩ := DataW.trod_int he h1
    obtain ⟨y, rfl, hy⟩ := wf_u8' hw
    refine ⟨y, hy, ?_⟩
    have := congrArg (·[0]?) hz
    simpa using this
  obtain ⟨Y, hY⟩ := choose_lt hb
  refine ⟨(List.range 32).map Y, by simp, fun x hx => ?_, ?_⟩
  · obtain ⟨i, hi', rfl⟩ := List.mem_map.1 hx
    exact (hY i (by simpa using hi')).1
  · apply List.ext_getElem?
    intro i
    by_cases h32 : i < 32
    · rw [(hY i h32).2, u8s, List.getElem?_map, List.getElem?_map, List.getElem?_range h32]; rfl
    · rw [List.getElem?_eq_none (by omega), List.getElem?_eq_none (by simp [u8s]; omega)]

theorem flat_at (l : List (List Nat)) (h : ∀ x ∈ l, x.length = 32) {j : Nat} {u : Value} (hu : (u8s l.flatten)[j]? = some u) : ∃ x, l[j / 32]? = some x ∧ (u8s x)[j % 32]? = some u := by
  have hj : j < l.flatten.length := by have := (List.getElem?_eq_some_iff.1 hu).1; rwa [u8s_len] at this
  rw [flat_len l h] at hj
  have hk : j / 32 < l.length := by omega
  obtain ⟨x, hx⟩ : ∃ x, l[j / 32]? = some x := ⟨_, List.getElem?_eq_getElem hk⟩
  have hxl := h x (List.mem_of_getElem? hx)
  obtain ⟨u', hu'⟩ : ∃ u', (u8s x)[j % 32]? = some u' := ⟨_, List.getElem?_eq_getElem (by rw [u8s_len, hxl]; omega)⟩
  have := flat_get l h hx _ _ hu'
  rw [show j / 32 * 32 + j % 32 = j from by omega, hu] at this
  cases this
  exact ⟨x, hx, hu'⟩

theorem open_hashes {t g e : TypeId} {v : Value} {d : DataW H} {ps : List MemPlace} (ht : P.underlying t = some (.slice g)) (hg : P.underlying g = some (.array 32 e)) (he : P.underlying e = some (.int .u8)) (cg : P.cellsOf g = 32) (ce : P.cellsOf e = 1)
    (hv : ∃ a n c, v = .slice a n c) (h : DataW.Trod enc P w 0 (fun _ => true) held t v d ps) : ∃ l : List (List Nat), Hs w v l ∧ l.length ≤ 9223372036854775807 := by
  obtain ⟨a0, n0, c0, rfl⟩ := hv
  obtain ⟨fuel, hf⟩ := h
  rcases open_slice ht hf with ⟨hcs, _⟩ | ⟨a, len, cap, m, n, D, Pl, hcs, _, hl, hm, hmm, _, hx⟩
  · simp [Value.cells] at hcs
    obtain ⟨rfl, rfl, rfl⟩ := hcs
    exact ⟨[], ⟨⟨none, 0, rfl, Nat.le_refl _, .inl rfl⟩, (fun x hx => by cases hx), (fun x hx => by cases hx)⟩, Nat.zero_le _⟩
  · simp [Value.cells] at hcs
    obtain ⟨rfl, rfl, rfl⟩ := hcs
    unfold maxLen at hm
    have hb : ∀ i, i < n0 → ∃ hh : List Nat, hh.length = 32 ∧ (∀ x ∈ hh, x < 256) ∧ ∀ j u, (u8s hh)[j]? = some u → w.cell? ((a.add (i * 32)).add j) = some u := fun i hi => by
      obtain ⟨cs', h1, h2⟩ := hx i (by rw [hmm]; simp; omega)
      rw [cg] at h1
      obtain ⟨hh, e1, e2, rfl⟩ := open_hash_cells hg he ce cg h2
      obtain ⟨_, _, h3⟩ := World.cells?_some h1
      exact ⟨hh, e1, e2, fun j u hu => (h3 j (by have := (List.getElem?_eq_some_iff.1 hu).1; rw [u8s_len, e1] at this; exact this)).trans hu⟩
    obtain ⟨L, hL⟩ := choose_lt hb
    have hlen : ∀ x ∈ (List.range n0).map L, x.length = 32 := fun x hx => by
      obtain ⟨i, hi, rfl⟩ := List.mem_map.1 hx
      exact (hL i (by simpa using hi)).1
    refine ⟨(List.range n0).map L, ⟨⟨some a, c0, by simp, by simpa using hl, ?_⟩, hlen, fun x hx => ?_⟩, by simp; omega⟩
    · by_cases h0 : n0 = 0
      · left; subst h0; rfl
      · right
        obtain ⟨u0, h32⟩ : ∃ u0, (u8s (L 0))[0]? = some u0 := ⟨_, List.getElem?_eq_getElem (by rw [u8s_len, (hL 0 (by omega)).1]; decide)⟩
        have hz : w.cell? (a.add 0) = some u0 := (hL 0 (by omega)).2.2 0 _ h32
        obtain ⟨b, off, rfl⟩ : ∃ b off, a = ⟨b, off, none⟩ := addr_plain hz
        refine ⟨b, off, rfl, fun j u hu => ?_⟩
        obtain ⟨x, hx, hu'⟩ := flat_at _ hlen hu
        have hq : j / 32 < n0 := by
          have := (List.getElem?_eq_some_iff.1 hx).1; simpa using this
        rw [List.getElem?_map, List.getElem?_range hq] at hx
        cases hx
        have := (hL (j / 32) hq).2.2 _ u hu'
        rw [add_plain, add_plain] at this
        rwa [show off + j / 32 * 32 + j % 32 = off + j from by omega] at this
    · obtain ⟨i, hi, rfl⟩ := List.mem_map.1 hx
      exact (hL i (by simpa using hi)).2.1
end
end Go.Proofs.Ytjpimfbkdighfaa
