import Derived.Test.YtjpimfbkdighfaaRL
import Derived.Test.YtjpimfbkdighfaaON
import Derived.Deep.LoopGhost
import Derived.Deep.CutRange
namespace Go.Proofs.Ytjpimfbkdighfaa
open Go.RowKit

theorem Rd.cut {w : World} {B off n c : Nat} {b : List Nat} (h : Rd w (.slice (some ⟨B, off, none⟩) n c) n (u8s b)) {at' m : Nat} (hm : at' + m ≤ n) (hn : n = b.length) :
    Rd w (.slice (some ⟨B, off + at', none⟩) m (c - at')) ((b.drop at').take m).length (u8s ((b.drop at').take m)) := by
  have hl : ((b.drop at').take m).length = m := by rw [List.length_take, List.length_drop]; omega
  obtain ⟨a, c', hv, hc, h0⟩ := h
  cases hv
  refine ⟨_, _, by rw [hl], by rw [hl]; omega, ?_⟩
  rcases h0 with h0 | ⟨b', off', hb, hx⟩
  · left
    have hb0 : b = [] := by simpa [u8s] using h0
    subst hb0; simp [u8s]
  · cases hb
    right
    refine ⟨_, _, rfl, fun j u hu => ?_⟩
    have hj : j < m := by have := (List.getElem?_eq_some_iff.1 hu).1; rw [u8s_len, hl] at this; exact this
    rw [Nat.add_assoc]
    refine hx _ u ?_
    rw [← hu]
    simp only [u8s, List.map_take, List.map_drop]
    rw [List.getElem?_take, if_pos hj, List.getElem?_drop]
theorem Rd.none {w : World} (a : Option Addr) (c : Nat) : Rd w (.slice a 0 c) ([] : List Nat).length (u8s []) := ⟨a, c, rfl, Nat.zero_le _, .inl rfl⟩

theorem Rd.len0 {w : World} {b : List Nat} (h : b = []) (a : Option Addr) (c : Nat) : Rd w (.slice a b.length c) ([] : List Nat).length (u8s []) := by subst h; exact Rd.none a c

/-- Pieces of b, as many as make its first bytes. -/
structure Pcs (w : World) (base : Nat) (wr : World) (r : Value) (b : List Nat) (k at' : Nat) (vs : List Value) : Prop where
  oq : OQ wr base 1 r k vs
  one : ∀ u ∈ vs, u.oneCell' = true
  ex : ∃ xss : List (List Nat), xss.length = k ∧ (∀ (j : Nat) (x : List Nat), xss[j]? = some x → ∃ u, vs[j]? = some u ∧ Rd w u x.length (u8s x)) ∧ xss.flatten = b.take at' ∧ ∀ x ∈ xss, ∀ y ∈ x, y ∈ b
theorem Pcs.snoc {w : World} {base k at' at2 : Nat} {wr w' : World} {r r' u : Value} {b x : List Nat} {vs : List Value} (h : Pcs w base wr r b k at' vs) (ho : OQ w' base 1 r' (k + 1) (vs ++ [u])) (hu : Rd w u x.length (u8s x)) (hx : b.take at' ++ x = b.take at2) (hxb : ∀ y ∈ x, y ∈ b) :
    Pcs w base w' r' b (k + 1) at2 (vs ++ [u]) := by
  obtain ⟨h1, h2, xss, h3, h4, h5, h6⟩ := h
  have hl : vs.length = k := by have := h1.1; omega
  refine ⟨ho, fun y hy => ?_, xss ++ [x], by simp [h3], fun j x' hx' => ?_, by rw [List.flatten_append, h5, ← hx]; simp, fun z hz => ?_⟩
  · rcases List.mem_append.1 hy with hy | hy
    · exact h2 y hy
    · rw [List.mem_singleton.1 hy]
      obtain ⟨a, c, rfl, _⟩ := hu; rfl
  · by_cases hj : j < k
    · rw [List.getElem?_append_left (by omega)] at hx'
      obtain ⟨y, hy, hr⟩ := h4 j x' hx'
      exact ⟨y, by rw [List.getElem?_append_left (by omega)]; exact hy, hr⟩
    · rw [List.getElem?_append_right (by omega)] at hx'
      have h0 : j - xss.length = 0 := by
        rcases Nat.eq_zero_or_pos (j - xss.length) with h | h
        · exact h
        · rw [List.getElem?_eq_none (by simp; omega)] at hx'; cases hx'
      rw [h0] at hx'
      cases hx'
      exact ⟨u, by rw [List.getElem?_append_right (by omega), show j - vs.length = 0 from by omega]; rfl, hu⟩
  · rcases List.mem_append.1 hz with hz | hz
    · exact h6 z hz
    · rw [List.mem_singleton.1 hz]; exact hxb
theorem Pcs.final {w : World} {base k at' : Nat} {wr w' : World} {r r' u : Value} {b x : List Nat} {vs : List Value} (h : Pcs w base wr r b k at' vs) (ho : OQ w' base 1 r' (k + 2) (vs ++ [.slice none 0 0, u])) (hu : Rd w u x.length (u8s x)) (hx : b.take at' ++ x = b) (hxb : ∀ y ∈ x, y ∈ b)
    (hq : Qt w w') (h256 : ∀ y ∈ b, y < 256) : ∃ xss, Parts w' r' xss ∧ xss.flatten = b ∧ xss.length = k + 2 := by
  obtain ⟨h1, h2, xss, h3, h4, h5, h6⟩ := h
  have hl : vs.length = k := by have := h1.1; omega
  refine ⟨xss ++ [[], x], ⟨⟨vs ++ [.slice none 0 0, u], by have := Rd.of_OQ ho; simpa [h3] using this, by simp [hl, h3], fun j x' hx' => ?_⟩, fun z hz => ?_⟩, by rw [List.flatten_append, h5]; simpa using hx, by simp [h3]⟩
  · by_cases hj : j < k
    · rw [List.getElem?_append_left (by omega)] at hx'
      obtain ⟨y, hy, hr⟩ := h4 j x' hx'
      exact ⟨y, by rw [List.getElem?_append_left (by omega)]; exact hy, hr.below hq⟩
    · rw [List.getElem?_append_right (by omega)] at hx'
      rw [List.getElem?_append_right (by omega), hl]
      rw [h3] at hx'
      match hjk : j - k, hx' with
      | 0, hx' => cases hx'; exact ⟨_, rfl, (Rd.none _ _)⟩
      | 1, hx' => cases hx'; exact ⟨_, rfl, hu.below hq⟩
  · rcases List.mem_append.1 hz with hz | hz
    · exact fun y hy => h256 y (h6 z hz y hy)
    · simp at hz
      rcases hz with rfl | rfl
      · intro y hy; cases hy
      · exact fun y hy => h256 y (hxb y hy)
theorem rd_blkN {w : World} {g n : Nat} {cs : List Value} {t : TypeId} {fr : Nat × Nat} (h : w.heap[g]? = some (.cells cs.toArray t fr)) : Rd w (.slice (some ⟨g, 0, none⟩) n n) n cs :=
  ⟨_, _, rfl, Nat.le_refl _, .inr ⟨_, _, rfl, fun j u hu => by rw [Nat.zero_add, cell_blk h]; exact hu⟩⟩
theorem parts3_blk {w : World} {g : Nat} {v1 v2 v3 : Value} {x1 x2 x3 : List Nat} {t : TypeId} {fr : Nat × Nat} (h : w.heap[g]? = some (.cells #[v1, v2, v3] t fr)) (h1 : Rd w v1 x1.length (u8s x1)) (h2 : Rd w v2 x2.length (u8s x2)) (h3 : Rd w v3 x3.length (u8s x3))
    (l1 : ∀ x ∈ x1, x < 256) (l2 : ∀ x ∈ x2, x < 256) (l3 : ∀ x ∈ x3, x < 256) : Parts w (.slice (some ⟨g, 0, none⟩) 3 3) [x1, x2, x3] := by
  refine ⟨⟨[v1, v2, v3], rd_blkN (cs := [v1, v2, v3]) h, rfl, fun j x hx => ?_⟩, fun x hx => ?_⟩
  · match j, hx with
    | 0, hx => cases hx; exact ⟨_, rfl, h1⟩
    | 1, hx => cases hx; exact ⟨_, rfl, h2⟩
    | 2, hx => cases hx; exact ⟨_, rfl, h3⟩
  · simp at hx
    rcases hx with rfl | rfl | rfl
    · exact l1
    · exact l2
    · exact l3
theorem neqHash_same (a : List Nat) (ha : a.length = 32) (w : World) : (binOp .neq 27 (.agg (u8s a).toArray) (.agg (u8s a).toArray)).run Try.prog w = .ok (.bool false) w := by
  obtain ⟨ie, hi, _⟩ := info_parts (P := Try.prog) (e := 5) (z := .int .u8 0) (size := 1) (bytes := 1) (by kernel_rfl)
  have := run_neq_hash (P := Try.prog) (t := 27) (n := 32) (by kernel_rfl) hi (by kernel_rfl) (by kernel_rfl) a a ha ha w
  rw [this]; simp
theorem half_of {n j : Nat} (h1 : 2 ^ j < n) (h2 : n ≤ 2 ^ j * 2) : half n = 2 ^ j := by
  unfold half
  congr 1
  have h3 : n - 1 < 2 ^ (j + 1) := by rw [Nat.pow_succ]; omega
  have h4 : 2 ^ j ≤ n - 1 := by omega
  have hne : n - 1 ≠ 0 := by have := Nat.two_pow_pos j; omega
  have a1 := (Nat.log2_lt hne).2 h3
  have a2 : j ≤ Nat.log2 (n - 1) := (Nat.le_log2 hne).2 h4
  omega
theorem tmod_lt {z : Int} {n : Nat} : z.tmod ((n : Int) + 1) < (n : Int) + 1 ∧ -((n : Int) + 1) < z.tmod ((n : Int) + 1) := by
  have h1 := Int.tmod_lt_of_pos z (b := (n : Int) + 1) (by omega)
  have h2 := Int.lt_tmod_of_pos z (b := (n : Int) + 1) (by omega)
  exact ⟨h1, h2⟩
end Go.Proofs.Ytjpimfbkdighfaa
