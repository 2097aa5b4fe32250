import Derived.Test.YtipgpnkdgofdeaaB
import Derived.Deep.MidRow
import Derived.OwnWalk
/-! What is handed in: copies with marks behind their ends (moidorekit). -/
namespace Go.Proofs.Ytipgpnkdgofdeaa
open Go.RowKit

theorem OQ.ofOwns {w : World} {base : Nat} {e : TypeId} {size : Nat} {v : Value} {n : Nat} {xs : List Value} (h : w.ownsRow base e size v n xs) : OQ w base size v n xs := by
  obtain ⟨h1, h2 | ⟨g, cap, cur, rfl, hb, hg, hn, hm, hc, hx⟩⟩ := h
  · exact ⟨h1, .inl h2⟩
  · have hgs : g < w.heap.size := by
      rcases Nat.lt_or_ge g w.heap.size with h' | h'
      · exact h'
      · rw [Array.getElem?_eq_none h'] at hg; cases hg
    refine ⟨h1, .inr ⟨g, 0, cap, rfl, hb, hgs, hn, hm, fun j hj => ?_, fun j u hu => ?_⟩⟩
    · refine ⟨?_, by simp [World.frozen?, hg]⟩
      rw [Nat.zero_add, show w.cell? ⟨g, j, none⟩ = cur[j]? from by simp [World.cell?, hg], Array.getElem?_eq_getElem (by omega)]; rfl
    · rw [Nat.zero_add, show w.cell? ⟨g, j, none⟩ = cur[j]? from by simp [World.cell?, hg]]
      rw [← hx] at hu
      have hj : j < (cur.toList.take (n * size)).length := (List.getElem?_eq_some_iff.1 hu).1
      rw [List.getElem?_take] at hu
      split at hu
      · simpa using hu
      · cases hu
theorem OQ.slice {w : World} {base size n : Nat} {v : Value} {xs : List Value} (h : OQ w base size v n xs) : ∃ a c, v = .slice a n c := by
  obtain ⟨_, ⟨rfl, rfl⟩ | ⟨g, off, cap, rfl, _⟩⟩ := h
  · exact ⟨_, _, rfl⟩
  · exact ⟨_, _, rfl⟩

/-- Bytes, as cells. -/
def u8s (b : List Nat) : List Value := b.map fun (n : Nat) => Value.int .u8 (n : Int)
theorem u8s_app (a b : List Nat) : u8s (a ++ b) = u8s a ++ u8s b := by simp [u8s]
theorem u8s_len (a : List Nat) : (u8s a).length = a.length := by simp [u8s]
theorem u8s_one1 (l : List Nat) : ∀ v ∈ u8s l, v.oneCell' = true := fun v hv => by obtain ⟨j, _, rfl⟩ := List.mem_map.1 hv; rfl

def mkn (k i : Nat) : Nat := 1000003 * (k + 7) + i
def mkb (k i : Nat) : Nat := mkn k i * 11400714819323198485 % 18446744073709551616 / 72057594037927936

theorem mark_any (k i : Nat) (hk : k ≤ 1000) (hi : i ≤ 1000000000) (w : World) : Calls Try.prog 72 #[.int .i64 (k : Int), .int .i64 (i : Int)] w fun e w' => e = .returned (.int .i64 (mkn k i : Nat)) ∧ w = w' := by
  go_enter Try.func72, Try.ntmps72
  go_wp2
  go_ret
  exact ⟨by unfold mkn; congr 2, rfl⟩

theorem below_none {w w' : World} {B : Nat} (h : w.grownBy w' none) (hB : B ≤ w.heap.size := by exact Nat.le_refl _) : Below B w w' := ⟨h.os, h.tape, h.output, h.size, fun k hk => h.block k (by omega) (by simp)⟩
theorem below_app {W w w' : World} {base size n : Nat} {v : Value} {xs : List Value} (hb : Below base W w) (ho : OQ w base size v n xs) (h : w.grownBy w' v.ownBlock) (hB : base ≤ W.heap.size := by exact Nat.le_refl _) : Below base W w' :=
  hb.trans ⟨h.os, h.tape, h.output, h.size, fun k hk => h.block k (by have := hb.size; omega) (fun e => by have := (ho.lt k e.symm).1; omega)⟩
theorem rd1_new {w : World} {t : TypeId} {g x : Nat} (hg : g = w.heap.size := by first | rfl | simp) : Rd (w.alloc (.cells #[.int .u8 (x : Int)] t)) (.slice (some ⟨g, 0, none⟩) 1 1) 1 (u8s [x]) := by
  subst hg
  exact ⟨_, _, rfl, Nat.le_refl _, .inr ⟨_, _, rfl, fun j u hu => by
    rw [World.cell?_alloc_new]
    match j, hu with
    | 0, hu => exact hu⟩⟩
theorem rdv_new {w : World} {t : TypeId} {g : Nat} {x : Value} (hg : g = w.heap.size := by first | rfl | simp) : Rd (w.alloc (.cells #[x] t)) (.slice (some ⟨g, 0, none⟩) 1 1) 1 [x] := by
  subst hg
  exact ⟨_, _, rfl, Nat.le_refl _, .inr ⟨_, _, rfl, fun j u hu => by
    rw [World.cell?_alloc_new]
    match j, hu with
    | 0, hu => exact hu⟩⟩
theorem OQ.lenCap {w : World} {base n c : Nat} {a : Option Addr} {xs : List Value} (h : OQ w base 1 (.slice a n c) n xs) : n ≤ c ∧ c ≤ 9223372036854775807 := by
  obtain ⟨_, ⟨h2, _⟩ | ⟨g, off, cap, h2, _, _, h3, h4, _⟩⟩ := h
  · cases h2; exact ⟨Nat.le_refl _, by omega⟩
  · cases h2; exact ⟨h3, by unfold maxLen at h4; omega⟩
theorem OQ.some_of {w : World} {base n c : Nat} {a : Option Addr} {xs : List Value} (h : OQ w base 1 (.slice a n c) n xs) (h0 : 0 < n) : ∃ g off, a = some ⟨g, off, none⟩ := by
  obtain ⟨_, ⟨_, h2⟩ | ⟨g, off, cap, h2, _⟩⟩ := h
  · omega
  · cases h2; exact ⟨_, _, rfl⟩

/-- A copy of bytes, with marks in its spare room. -/
structure Lent (w : World) (base : Nat) (v : Value) (xs : List Nat) : Prop where
  ex : ∃ g off c, v = .slice (some ⟨g, off, none⟩) xs.length c ∧ base ≤ g ∧ g < w.heap.size ∧ xs.length + 12 ≤ c ∧ c ≤ maxLen ∧ ∀ j u, (u8s (xs ++ (List.range 12).map (mkb 1)))[j]? = some u → w.cell? ⟨g, off + j, none⟩ = some u
  lt : ∀ x ∈ xs, x < 256

theorem OQ.lent {w : World} {base c g off : Nat} {xs : List Nat} (h : OQ w base 1 (.slice (some ⟨g, off, none⟩) (xs.length + 12) c) (xs.length + 12) (u8s (xs ++ (List.range 12).map (mkb 1)))) :
    ∃ g' off' c', (Value.slice (some ⟨g, off, none⟩) xs.length c) = .slice (some ⟨g', off', none⟩) xs.length c' ∧ base ≤ g' ∧ g' < w.heap.size ∧ xs.length + 12 ≤ c' ∧ c' ≤ maxLen ∧ ∀ j u, (u8s (xs ++ (List.range 12).map (mkb 1)))[j]? = some u → w.cell? ⟨g', off' + j, none⟩ = some u := by
  obtain ⟨_, ⟨h2, _⟩ | ⟨g', off', cap, h2, r1, r2, r3, r4, _, r5⟩⟩ := h
  · cases h2
  · cases h2; exact ⟨_, _, _, rfl, r1, r2, r3, r4, r5⟩

theorem Lent.lt_size {w : World} {base : Nat} {u : Value} {x : List Nat} (h : Lent w base u x) : ∃ g, u.ownBlock = some g ∧ base ≤ g ∧ g < w.heap.size ∧ u.oneCell' = true := by
  obtain ⟨⟨g, off, c, rfl, h1, h2, _⟩, _⟩ := h
  exact ⟨g, rfl, h1, h2, rfl⟩
theorem Lent.form {w : World} {base : Nat} {u : Value} {x : List Nat} (h : Lent w base u x) : ∃ g off c, u = .slice (some ⟨g, off, none⟩) x.length c := by
  obtain ⟨⟨g, off, c, rfl, _⟩, _⟩ := h
  exact ⟨_, _, _, rfl⟩
theorem Lent.keep {w w' : World} {base : Nat} {u : Value} {x : List Nat} (h : Lent w base u x) (hs : w.heap.size ≤ w'.heap.size) (hk : ∀ g, u.ownBlock = some g → w'.heap[g]? = w.heap[g]?) : Lent w' base u x := by
  obtain ⟨⟨g, off, c, rfl, h1, h2, h3, h4, h5⟩, hl⟩ := h
  refine ⟨⟨g, off, c, rfl, h1, by omega, h3, h4, fun j u hu => ?_⟩, hl⟩
  rw [World.cell?_of_block (w := w) (a := ⟨g, off + j, none⟩) (hk g rfl)]
  exact h5 j u hu
theorem Lent.below {w w' : World} {base : Nat} {u : Value} {x : List Nat} (h : Lent w base u x) (hb : Qt w w') : Lent w' base u x :=
  h.keep hb.size fun g hg => hb.block g (by obtain ⟨g', e, _, h2, _⟩ := h.lt_size; rw [e] at hg; cases hg; exact h2)
theorem Lent.grown {w w' : World} {base : Nat} {u : Value} {x : List Nat} (h : Lent w base u x) {row : Option Nat} (hg : w.grownBy w' row) (hne : u.ownBlock ≠ row) : Lent w' base u x := by
  obtain ⟨g', e, _, h2, _⟩ := h.lt_size
  refine h.keep hg.size fun g hg' => hg.block g ?_ (fun e' => hne (by rw [hg', e']))
  rw [e] at hg'; cases hg'; exact h2
theorem Lent.lower {w : World} {base base' : Nat} {u : Value} {x : List Nat} (h : Lent w base u x) (hb : base' ≤ base) : Lent w base' u x := by
  obtain ⟨⟨g, off, c, rfl, h1, h2, h3⟩, hl⟩ := h
  exact ⟨⟨g, off, c, rfl, by omega, h2, h3⟩, hl⟩
theorem Lent.rd {w : World} {base : Nat} {u : Value} {x : List Nat} (h : Lent w base u x) : Rd w u x.length (u8s x) := by
  obtain ⟨⟨g, off, c, rfl, h1, h2, h3, h4, h5⟩, hl⟩ := h
  refine ⟨_, _, rfl, by omega, .inr ⟨g, off, rfl, fun j u hu => h5 j u ?_⟩⟩
  have := (List.getElem?_eq_some_iff.1 hu).1
  rw [u8s_app, List.getElem?_append_left this]; exact hu

/-- Slices of bytes in a slice. -/
structure Parts (w : World) (v : Value) (xss : List (List Nat)) : Prop where
  rd : ∃ vs : List Value, Rd w v xss.length vs ∧ vs.length = xss.length ∧ ∀ (j : Nat) (x : List Nat), xss[j]? = some x → ∃ u, vs[j]? = some u ∧ Rd w u x.length (u8s x)
  lt : ∀ x ∈ xss, ∀ y ∈ x, y < 256

structure LentRs (w : World) (base : Nat) (r : Value) (xss : List (List Nat)) : Prop where
  ex : ∃ vs, OQ w base 1 r xss.length vs ∧ (∀ u ∈ vs, u.ownBlock ≠ r.ownBlock) ∧ (∀ u ∈ vs, ∃ x, Lent w base u x) ∧ ∀ (j : Nat) (x : List Nat), xss[j]? = some x → ∃ u, vs[j]? = some u ∧ Lent w base u x
theorem LentRs.below {w w' : World} {base : Nat} {r : Value} {xss : List (List Nat)} (h : LentRs w base r xss) (hb : Qt w w') : LentRs w' base r xss := by
  obtain ⟨vs, h1, h2, h3, h4⟩ := h
  exact ⟨vs, h1.below hb, h2, fun u hu => let ⟨x, hx⟩ := h3 u hu; ⟨x, hx.below hb⟩, fun j x hx => let ⟨u, hu, hl⟩ := h4 j x hx; ⟨u, hu, hl.below hb⟩⟩
theorem LentRs.parts {w : World} {base : Nat} {r : Value} {xss : List (List Nat)} (h : LentRs w base r xss) : Parts w r xss := by
  obtain ⟨vs, h1, h2, h3, h4⟩ := h
  refine ⟨⟨vs, Rd.of_OQ h1, by have := h1.1; omega, fun j x hx => let ⟨u, hu, hl⟩ := h4 j x hx; ⟨u, hu, hl.rd⟩⟩, fun x hx => ?_⟩
  obtain ⟨j, hj⟩ := List.mem_iff_getElem?.1 hx
  obtain ⟨u, _, hl⟩ := h4 j x hj
  exact hl.lt
/-- One more. -/
theorem LentRs.snoc {w w' : World} {base n : Nat} {r r' u : Value} {vs : List Value} {xss : List (List Nat)} {x : List Nat} (hn : xss.length = n)
    (h2 : ∀ u ∈ vs, u.ownBlock ≠ r.ownBlock) (h3 : ∀ u ∈ vs, ∃ x, Lent w base u x) (h4 : ∀ (j : Nat) (x : List Nat), xss[j]? = some x → ∃ u, vs[j]? = some u ∧ Lent w base u x) (hvs : vs.length = n)
    (hu : Lent w base u x) (hur : u.ownBlock ≠ r.ownBlock) (ho : OQ w' base 1 r' (n + 1) (vs ++ [u])) (hg : w.grownBy w' r.ownBlock) (hr : r'.ownBlock = r.ownBlock ∨ ∃ g, r'.ownBlock = some g ∧ w.heap.size ≤ g) : LentRs w' base r' (xss ++ [x]) := by
  have hne : ∀ y ∈ vs ++ [u], y.ownBlock ≠ r.ownBlock := by
    intro y hy
    rcases List.mem_append.1 hy with hy | hy
    · exact h2 y hy
    · rw [List.mem_singleton.1 hy]; exact hur
  have hle : ∀ y ∈ vs ++ [u], ∃ x, Lent w base y x := by
    intro y hy
    rcases List.mem_append.1 hy with hy | hy
    · exact h3 y hy
    · rw [List.mem_singleton.1 hy]; exact ⟨x, hu⟩
  refine ⟨vs ++ [u], by rw [List.length_append, hn]; exact ho, fun y hy e => ?_, fun y hy => ?_, fun j x' hx => ?_⟩
  · rcases hr with hr | ⟨g, hr, hg'⟩
    · exact hne y hy (e.trans hr)
    · obtain ⟨x, hx⟩ := hle y hy
      obtain ⟨g2, e2, _, h5, _⟩ := hx.lt_size
      rw [e2, hr] at e
      cases e
      omega
  · obtain ⟨x, hx⟩ := hle y hy
    exact ⟨x, hx.grown hg (hne y hy)⟩
  · by_cases hj : j < n
    · rw [List.getElem?_append_left (by omega)] at hx
      obtain ⟨y, hy, hl⟩ := h4 j x' hx
      exact ⟨y, by rw [List.getElem?_append_left (by omega)]; exact hy, hl.grown hg (h2 y (List.mem_of_getElem? hy))⟩
    · rw [List.getElem?_append_right (by omega)] at hx
      have h0 : j - xss.length = 0 := by
        rcases Nat.eq_zero_or_pos (j - xss.length) with h | h
        · exact h
        · rw [List.getElem?_eq_none (by simp; omega)] at hx; cases hx
      rw [h0] at hx
      cases hx
      exact ⟨u, by rw [List.getElem?_append_right (by omega), show j - vs.length = 0 from by omega]; rfl, hu.grown hg hur⟩

end Go.Proofs.Ytipgpnkdgofdeaa
