import Derived.Test.YtajkmblcphdnbaaGreatWH
import Derived.Test.YtajkmblcphdnbaaGreatWQ
/-! Writers in memory: a writer has blocks of its own. -/
namespace Go.Proofs.YtajkmblcphdnbaaGreat
open Go.RowKit
set_option linter.unusedVariables false
set_option linter.unusedSimpArgs false

/-- The bytes of a number, the highest first. -/
def beB (k n : Nat) : List Nat := (List.range k).map fun j => n / 2 ^ (8 * (k - 1 - j)) % 256
theorem beB_len (k n : Nat) : (beB k n).length = k := by simp [beB]
theorem beB_lt (k n : Nat) : ∀ x ∈ beB k n, x < 256 := by
  intro x hx
  obtain ⟨j, _, rfl⟩ := List.mem_map.1 hx
  exact Nat.mod_lt _ (by decide)
theorem beB_take (n j i k : Nat) (h : k = j + 1 + i) : (beB k n).take (j + 1) = (beB k n).take j ++ [n / 2 ^ (8 * i) % 256] := by
  have hj : j < (beB k n).length := by rw [beB_len]; omega
  rw [List.take_succ_eq_append_getElem hj]
  congr 2
  simp only [beB, List.getElem_map, List.getElem_range]
  rw [show k - 1 - j = i from by omega]

/-- All stays but the blocks of S. -/
structure Gs (S : Nat → Prop) (w w' : World) : Prop where
  os : w'.os = w.os
  tape : w'.tape = w.tape
  output : w'.output = w.output
  size : w.heap.size ≤ w'.heap.size
  block : ∀ k, k < w.heap.size → ¬S k → w'.heap[k]? = w.heap[k]?
/-- The blocks of S, and those that were made since. -/
def Fr (S : Nat → Prop) (w w' : World) : Nat → Prop := fun k => S k ∨ (w.heap.size ≤ k ∧ k < w'.heap.size)
theorem Gs.refl (S : Nat → Prop) (w : World) : Gs S w w := ⟨rfl, rfl, rfl, Nat.le_refl _, fun _ _ _ => rfl⟩
theorem Gs.trans {S : Nat → Prop} {x y z : World} (h : Gs S x y) (k : Gs (Fr S x y) y z) : Gs S x z :=
  ⟨k.os.trans h.os, k.tape.trans h.tape, k.output.trans h.output, Nat.le_trans h.size k.size, fun i hi hn => (k.block i (Nat.lt_of_lt_of_le hi h.size) (by rintro (h1 | ⟨h1, _⟩); exact hn h1; omega)).trans (h.block i hi hn)⟩
theorem Gs.of_qt {S : Nat → Prop} {w w' : World} (h : Qt w w') : Gs S w w' := ⟨h.os, h.tape, h.output, h.size, fun k hk _ => h.block k hk⟩
theorem Gs.qt {S : Nat → Prop} {x y z : World} (h : Gs S x y) (k : Qt y z) : Gs S x z := h.trans (.of_qt k)
theorem Gs.of_og {S : Nat → Prop} {a : Nat} {w w' : World} (h : Og a w w') (ha : S a) : Gs S w w' := ⟨h.os, h.tape, h.output, h.size, fun k hk hn => h.block k hk (fun e => hn (by cases e; exact ha))⟩
theorem Gs.mono {S S' : Nat → Prop} {w w' : World} (h : Gs S w w') (hs : ∀ k, k < w.heap.size → S k → S' k) : Gs S' w w' := ⟨h.os, h.tape, h.output, h.size, fun k hk hn => h.block k hk (fun e => hn (hs k hk e))⟩
/-- What is made since a base, and just that, is turned. -/
theorem Gs.below {S : Nat → Prop} {W w w' : World} (hb : Qt W w) (h : Gs S w w') (hs : ∀ k, S k → W.heap.size ≤ k) : Qt W w' :=
  ⟨h.os.trans hb.os, h.tape.trans hb.tape, h.output.trans hb.output, Nat.le_trans hb.size h.size, fun k hk => by
    rw [h.block k (Nat.lt_of_lt_of_le hk hb.size) (fun e => by have := hs k e; omega)]
    exact hb.block k hk⟩
theorem Gs.blk {S : Nat → Prop} {w w' : World} {a : Nat} {t : TypeId} {c : List Value} (h : Gs S w w') (hb : Blk w a t c) (ha : ¬S a) : Blk w' a t c := by
  have := h.block a hb.lt ha
  unfold Blk at *; rw [this, hb]
theorem Fr.lt {S : Nat → Prop} {w w' : World} (hs : ∀ k, S k → k < w.heap.size) (hz : w.heap.size ≤ w'.heap.size) : ∀ k, Fr S w w' k → k < w'.heap.size := by
  rintro k (h | ⟨_, h⟩)
  · have := hs k h; omega
  · exact h
theorem Fr.fr {S : Nat → Prop} {x y z : World} (h1 : x.heap.size ≤ y.heap.size) (h2 : y.heap.size ≤ z.heap.size) : ∀ k, Fr (Fr S x y) y z k → Fr S x z k := by
  rintro k ((h | ⟨h, h'⟩) | ⟨h, h'⟩)
  · exact .inl h
  · exact .inr ⟨h, by omega⟩
  · exact .inr ⟨by omega, h'⟩

/-- The bytes of a writer lie in blocks of its own. -/
structure Own (S : Nat → Prop) (w : World) (a : Nat) (sl : Value) (l : List Nat) : Prop where
  oq : OQ w 0 1 sl l.length (u8s l)
  me : S a
  his : ∀ g, sl.ownBlock = some g → S g ∧ g ≠ a
  lt : ∀ k, S k → k < w.heap.size
  b8 : ∀ x ∈ l, x < 256
theorem Own.mono {S S' : Nat → Prop} {w : World} {a : Nat} {sl : Value} {l : List Nat} (h : Own S w a sl l) (hs : ∀ k, S k → S' k) (hl : ∀ k, S' k → k < w.heap.size) : Own S' w a sl l :=
  ⟨h.oq, hs _ h.me, fun g hg => ⟨hs _ (h.his g hg).1, (h.his g hg).2⟩, hl, h.b8⟩
theorem Own.qt {S : Nat → Prop} {w w' : World} {a : Nat} {sl : Value} {l : List Nat} (h : Own S w a sl l) (q : Qt w w') : Own S w' a sl l :=
  ⟨h.oq.below q, h.me, h.his, fun k hk => Nat.lt_of_lt_of_le (h.lt k hk) q.size, h.b8⟩
/-- Others are turned. -/
theorem Own.gs {S R : Nat → Prop} {w w' : World} {a : Nat} {sl : Value} {l : List Nat} (h : Own S w a sl l) (q : Gs R w w') (hd : ∀ k, S k → ¬R k) : Own S w' a sl l :=
  ⟨h.oq.keep q.size fun g hg => q.block g (h.oq.lt g hg).2 (hd g (h.his g hg).1), h.me, h.his, fun k hk => Nat.lt_of_lt_of_le (h.lt k hk) q.size, h.b8⟩
theorem Own.step {S : Nat → Prop} {w w1 w2 : World} {a i : Nat} {sl v : Value} {l news : List Nat} {n : Nat} (h : Own S w a sl l) (q : Qt w w1) (hg : w1.grownBy w2 sl.ownBlock) (ho : OQ w2 0 1 v n (u8s l ++ u8s news))
    (hv : v.ownBlock = sl.ownBlock ∨ ∃ g, v.ownBlock = some g ∧ w1.heap.size ≤ g) (h8 : ∀ x ∈ news, x < 256) :
    Own (Fr S w (w2.setCell ⟨a, i, none⟩ v)) (w2.setCell ⟨a, i, none⟩ v) a v (l ++ news) ∧ Gs S w (w2.setCell ⟨a, i, none⟩ v) := by
  have hla := h.lt a h.me
  have hz1 := q.size
  have hz2 := hg.size
  have hz : (w2.setCell ⟨a, i, none⟩ v).heap.size = w2.heap.size := by simp [World.setCell]
  have hlen : n = (l ++ news).length := by have := ho.1; simp only [List.length_append, u8s_len] at this; rw [List.length_append]; omega
  subst hlen
  have hva : ∀ g, v.ownBlock = some g → Fr S w (w2.setCell ⟨a, i, none⟩ v) g ∧ g ≠ a := by
    intro g hg'
    rcases hv with e | ⟨g', e, hge⟩
    · rw [e] at hg'
      exact ⟨.inl (h.his g hg').1, (h.his g hg').2⟩
    · rw [e] at hg'; cases hg'
      exact ⟨.inr ⟨by omega, by rw [hz]; exact (ho.lt g e).2⟩, by omega⟩
  refine ⟨⟨?_, .inl h.me, hva, Fr.lt h.lt (by omega), ?_⟩, ?_⟩
  · rw [u8s_app]
    exact ho.far (p := ⟨a, i, none⟩) (fun e => (hva a e).2 rfl) v
  · intro x hx
    rcases List.mem_append.1 hx with hx | hx
    · exact h.b8 x hx
    · exact h8 x hx
  · refine ⟨hg.os.trans q.os, hg.tape.trans q.tape, hg.output.trans q.output, by omega, fun k hk hn => ?_⟩
    rw [Below.heap_setCell _ _ _ _ (fun e => hn (by rw [show k = a from e]; exact h.me))]
    rw [hg.block k (by omega) (fun e => hn (h.his k e.symm).1), q.block k hk]

/-- A writer's own block is not that of its bytes. -/
theorem Own.blk {S : Nat → Prop} {w w1 w2 : World} {a : Nat} {sl : Value} {l : List Nat} {t : TypeId} {c : List Value} (h : Own S w a sl l) (hb : Blk w1 a t c) (hg : w1.grownBy w2 sl.ownBlock) : Blk w2 a t c := by
  have := hg.block a hb.lt (fun e => (h.his a e.symm).2 rfl)
  unfold Blk at *; rw [this, hb]
theorem u8v {x : Nat} {v : Value} (h : v = .int .u8 (x : Int)) : [v] = u8s [x] := by rw [h]; rfl

/-- A writer, of a form: what it has, or that it is spoilt. -/
def WrL (t : TypeId) (f : Bool → Value → List Value) (S : Nat → Prop) (w : World) (a : Nat) : Option (List Nat) → Prop
  | some l => ∃ sl, Blk w a t (f false sl) ∧ Own S w a sl l
  | none => (∃ sl, Blk w a t (f true sl)) ∧ S a ∧ ∀ k, S k → k < w.heap.size
theorem WrL.lt {t : TypeId} {f : Bool → Value → List Value} {S : Nat → Prop} {w : World} {a : Nat} {st : Option (List Nat)} (h : WrL t f S w a st) : ∀ k, S k → k < w.heap.size := by
  cases st with
  | none => exact h.2.2
  | some l => obtain ⟨sl, _, h⟩ := h; exact h.lt
theorem WrL.me {t : TypeId} {f : Bool → Value → List Value} {S : Nat → Prop} {w : World} {a : Nat} {st : Option (List Nat)} (h : WrL t f S w a st) : S a := by
  cases st with
  | none => exact h.2.1
  | some l => obtain ⟨sl, _, h⟩ := h; exact h.me
theorem WrL.mono {t : TypeId} {f : Bool → Value → List Value} {S S' : Nat → Prop} {w : World} {a : Nat} {st : Option (List Nat)} (h : WrL t f S w a st) (hs : ∀ k, S k → S' k) (hl : ∀ k, S' k → k < w.heap.size) : WrL t f S' w a st := by
  cases st with
  | none => exact ⟨h.1, hs _ h.2.1, hl⟩
  | some l => obtain ⟨sl, hb, h⟩ := h; exact ⟨sl, hb, h.mono hs hl⟩
theorem WrL.qt {t : TypeId} {f : Bool → Value → List Value} {S : Nat → Prop} {w w' : World} {a : Nat} {st : Option (List Nat)} (h : WrL t f S w a st) (q : Qt w w') : WrL t f S w' a st := by
  cases st with
  | none => obtain ⟨⟨sl, hb⟩, hm, hl⟩ := h; exact ⟨⟨sl, hb.qt q⟩, hm, fun k hk => Nat.lt_of_lt_of_le (hl k hk) q.size⟩
  | some l => obtain ⟨sl, hb, h⟩ := h; exact ⟨sl, hb.qt q, h.qt q⟩
theorem WrL.gs {t : TypeId} {f : Bool → Value → List Value} {S R : Nat → Prop} {w w' : World} {a : Nat} {st : Option (List Nat)} (h : WrL t f S w a st) (q : Gs R w w') (hd : ∀ k, S k → ¬R k) : WrL t f S w' a st := by
  cases st with
  | none => obtain ⟨⟨sl, hb⟩, hm, hl⟩ := h; exact ⟨⟨sl, q.blk hb (hd _ hm)⟩, hm, fun k hk => Nat.lt_of_lt_of_le (hl k hk) q.size⟩
  | some l => obtain ⟨sl, hb, h⟩ := h; exact ⟨sl, q.blk hb (hd _ h.me), h.gs q hd⟩
/-- The same, where what was made belongs to it too. -/
theorem WrL.fr {t : TypeId} {f : Bool → Value → List Value} {S : Nat → Prop} {w w' : World} {a : Nat} {st : Option (List Nat)} (h : WrL t f S w' a st) : WrL t f (Fr S w w') w' a st := by
  refine h.mono (fun k hk => .inl hk) ?_
  rintro k (hk | ⟨_, hk⟩)
  · exact h.lt k hk
  · exact hk
theorem WrL.fr2 {t : TypeId} {f : Bool → Value → List Value} {S : Nat → Prop} {x y z : World} {a : Nat} {st : Option (List Nat)} (h : WrL t f (Fr (Fr S x y) y z) z a st) (h1 : x.heap.size ≤ y.heap.size) (h2 : y.heap.size ≤ z.heap.size) (hs : ∀ k, S k → k < x.heap.size) : WrL t f (Fr S x z) z a st :=
  h.mono (Fr.fr h1 h2) (Fr.lt hs (by omega))
/-- The program's. -/
def fW (b : Bool) (sl : Value) : List Value := [.bool true, .bool b, sl]
abbrev WrA := WrL 61 fW
/-- The reference's. -/
def fV (b : Bool) (sl : Value) : List Value := [sl, .bool b]
abbrev WfA := WrL 38 fV
/-- How many bytes it has. -/
def lenO : Option (List Nat) → Nat
  | some l => l.length
  | none => 0
end Go.Proofs.YtajkmblcphdnbaaGreat
