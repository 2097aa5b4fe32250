import Derived.Test.YtajkmblcphdnbaaGreatWB
/-! What a reader takes. -/
namespace Go.Proofs.YtajkmblcphdnbaaGreat
open Go.RowKit
set_option linter.unusedVariables false
set_option linter.unusedSimpArgs false

/-- A slice of these bytes. -/
def Sl (w : World) (v : Value) (l : List Nat) : Prop :=
  ((∃ a, v = .slice a 0 0) ∧ l = []) ∨ ∃ b off c, v = .slice (some ⟨b, off, none⟩) l.length c ∧ l.length ≤ c ∧ (c ≤ 9223372036854775807 ∧ l.length ≤ 140737488355328) ∧ ∀ (j : Nat) (y : Nat), l[j]? = some y → w.cell? ⟨b, off + j, none⟩ = some (.int .u8 (y : Int))
theorem Sl.rd {w : World} {v : Value} {l : List Nat} (h : Sl w v l) : Rd w v l.length (u8s l) := by
  rcases h with ⟨⟨a0, rfl⟩, rfl⟩ | ⟨b, off, c, rfl, hc, _, hx⟩
  · exact ⟨a0, 0, rfl, Nat.le_refl _, .inl rfl⟩
  · refine ⟨_, c, rfl, hc, .inr ⟨b, off, rfl, fun j u hu => ?_⟩⟩
    rw [u8s, List.getElem?_map] at hu
    cases hl : l[j]? with
    | none => rw [hl] at hu; cases hu
    | some y => rw [hl] at hu; cases hu; exact hx j y hl
theorem Sl.len {w : World} {v : Value} {l : List Nat} (h : Sl w v l) : ∃ a c, v = .slice a l.length c := by
  rcases h with ⟨⟨a0, rfl⟩, rfl⟩ | ⟨b, off, c, rfl, _⟩
  · exact ⟨_, _, rfl⟩
  · exact ⟨_, _, rfl⟩
theorem Sl.le {w : World} {v : Value} {l : List Nat} (h : Sl w v l) : l.length ≤ 140737488355328 := by
  rcases h with ⟨⟨a0, rfl⟩, rfl⟩ | ⟨b, off, c, rfl, _, h, _⟩
  · simp
  · exact h.2
theorem Sl.slice {w : World} {v : Value} {l : List Nat} (h : Sl w v l) : ∃ a n c, v = .slice a n c := by
  obtain ⟨a, c, h⟩ := h.len
  exact ⟨_, _, _, h⟩
theorem Sl.keep {w w' : World} {v : Value} {l : List Nat} (h : Sl w v l) (hk : ∀ (p : Addr) (y : Nat), w.cell? p = some (.int .u8 (y : Int)) → w'.cell? p = some (.int .u8 (y : Int))) : Sl w' v l := by
  rcases h with ⟨⟨a0, rfl⟩, rfl⟩ | ⟨b, off, c, rfl, hc, hm, hx⟩
  · exact .inl ⟨⟨_, rfl⟩, rfl⟩
  · exact .inr ⟨b, off, c, rfl, hc, hm, fun j y hy => hk _ _ (hx j y hy)⟩
theorem Sl.qt {w w' : World} {v : Value} {l : List Nat} (h : Sl w v l) (q : Qt w w') : Sl w' v l :=
  h.keep fun _ _ hy => (q.cell (blk_of_cell hy)).trans hy
theorem Sl.og {w w' : World} {v : Value} {l : List Nat} {a : Nat} {t : TypeId} {c : List Value} (h : Sl w v l) (hb : Blk w a t c) (hc : ∀ x ∈ c, ∀ k : Int, x ≠ .int .u8 k) (q : Og a w w') : Sl w' v l :=
  h.keep fun p y hy => q.cell hy (fun e => by
    obtain ⟨b, off, sp⟩ := p
    have e' : b = a := e
    subst e'
    cases sp with
    | none => rw [hb.cell] at hy; exact hc _ (List.mem_of_getElem? hy) _ rfl
    | some s => unfold Blk at hb; simp [World.cell?, hb] at hy)
/-- No byte lies in a reader's block. -/
theorem no_u8 {x y : Bool} {s : Value} (hs : ∃ a n c, s = .slice a n c) : ∀ v ∈ [Value.bool x, .bool y, s], ∀ k : Int, v ≠ .int .u8 k := by
  obtain ⟨a, n, c, rfl⟩ := hs
  intro v hv k e
  subst e
  simp at hv
theorem Sl.tail {w : World} {b off off' c k : Nat} {l : List Nat} (hc : l.length ≤ c) (hm : c ≤ 9223372036854775807 ∧ l.length ≤ 140737488355328) (hx : ∀ (j : Nat) (y : Nat), l[j]? = some y → w.cell? ⟨b, off + j, none⟩ = some (.int .u8 (y : Int)))
    (hk : k ≤ l.length) (ho : off' = off + k ∨ c = k) : Sl w (.slice (some ⟨b, off', none⟩) (l.length - k) (c - k)) (l.drop k) := by
  refine .inr ⟨b, off', c - k, by rw [List.length_drop], by rw [List.length_drop]; omega, ⟨by omega, by rw [List.length_drop]; omega⟩, fun j y hy => ?_⟩
  rw [List.getElem?_drop] at hy
  have hj := (List.getElem?_eq_some_iff.1 hy).1
  rcases ho with rfl | ho
  · rw [Nat.add_assoc]; exact hx _ _ hy
  · omega
theorem Sl.head {w : World} {b off c k : Nat} {l : List Nat} (hc : l.length ≤ c) (hm : c ≤ 9223372036854775807 ∧ l.length ≤ 140737488355328) (hx : ∀ (j : Nat) (y : Nat), l[j]? = some y → w.cell? ⟨b, off + j, none⟩ = some (.int .u8 (y : Int)))
    (hk : k ≤ l.length) : Sl w (.slice (some ⟨b, off, none⟩) k c) (l.take k) := by
  have e : (l.take k).length = k := by rw [List.length_take]; omega
  refine .inr ⟨b, off, c, by rw [e], by omega, ⟨hm.1, by omega⟩, fun j y hy => ?_⟩
  have hj := (List.getElem?_eq_some_iff.1 hy).1
  rw [List.getElem?_take, if_pos (by omega)] at hy
  exact hx j y hy
/-- What is left of a slice, in whatever world. -/
def Tl (sl : Value) (l : List Nat) (sl' : Value) (l' : List Nat) : Prop := ∀ w, Sl w sl l → Sl w sl' l'
theorem Tl.tail {b off off' c k : Nat} {l : List Nat} (hk : k ≤ l.length) (ho : off' = off + k ∨ c = k) : Tl (.slice (some ⟨b, off, none⟩) l.length c) l (.slice (some ⟨b, off', none⟩) (l.length - k) (c - k)) (l.drop k) := by
  intro w h
  rcases h with ⟨⟨_, h⟩, h0⟩ | ⟨b', off2, c', h, hc, hm, hx⟩
  · subst h0
    simp only [Value.slice.injEq] at h
    obtain ⟨_, _, rfl⟩ := h
    obtain rfl : k = 0 := by simpa using hk
    exact .inl ⟨⟨_, rfl⟩, rfl⟩
  · simp only [Value.slice.injEq, Option.some.injEq, Addr.mk.injEq] at h
    obtain ⟨⟨rfl, rfl, _⟩, _, rfl⟩ := h
    exact Sl.tail hc hm hx hk ho

section
variable (a : Nat) (x y sl : Value) (l : List Nat) (w : World)
theorem take_yes (k : Nat) (hb : Blk w a 69 [x, y, sl]) (hs : Sl w sl l) (hk : k ≤ l.length) :
    Calls Tryz.prog 71 #[.pointer (some ⟨a, 0, none⟩), .int .i64 (k : Int)] w fun e w' => ∃ v, e = .returned v ∧ Sl w v (l.take k) ∧ (∃ sl', Blk w' a 69 [x, y, sl'] ∧ Tl sl l sl' (l.drop k)) ∧ Og a w w' := by
  have f2 : w.frozen? ⟨a, 2, none⟩ = false := hb.frozen 2
  have HM := Lib.hid (must_yes w)
  have HB := Lib.hid hb
  rcases hs with ⟨⟨a0, rfl⟩, rfl⟩ | ⟨b, off, c, rfl, hc, hm, hx⟩
  · obtain rfl : k = 0 := by simpa using hk
    have c2 : w.cell? ⟨a, 2, none⟩ = some (.slice a0 0 0) := hb.cell 2
    clear hb
    cases a0
    all_goals
     go_enter Tryz.func71, Tryz.ntmps71
     go_wp2_with (go_at_call 68; refine HM.out.mono ?_; rintro e w1 ⟨rfl, rfl⟩)
     go_ret
     exact ⟨_, rfl, .inl ⟨⟨_, rfl⟩, rfl⟩, ⟨_, HB.out.set 2 _, fun _ h => h⟩, (Og.refl a w).setCell (.inl rfl) _⟩
  · have c2 : w.cell? ⟨a, 2, none⟩ = some (.slice (some ⟨b, off, none⟩) l.length c) := hb.cell 2
    have HX := Lib.hid hx
    have hm1 := hm.1
    have HMM := Lib.hid hm
    clear hb hx hm
    go_enter Tryz.func71, Tryz.ntmps71
    go_wp2_with (go_at_call 68; refine HM.out.mono ?_; rintro e w1 ⟨rfl, rfl⟩)
    all_goals go_ret
    · subst h
      have hx := HX.out
      exact ⟨_, rfl, Sl.head hc HMM.out hx hk, ⟨_, HB.out.set 2 _, by simpa using Tl.tail (c := c) (off := off) (off' := off) (b := b) hk (.inr rfl)⟩, (Og.refl a w).setCell (.inl rfl) _⟩
    · exact ⟨_, rfl, Sl.head hc HMM.out HX.out hk, ⟨_, HB.out.set 2 _, Tl.tail hk (.inl rfl)⟩, (Og.refl a w).setCell (.inl rfl) _⟩
theorem take_no (n : Int) (sb : Option Addr) (c : Nat) (hb : Blk w a 69 [x, y, .slice sb l.length c]) (hn : n < 0 ∨ (l.length : Int) < n) :
    Calls Tryz.prog 71 #[.pointer (some ⟨a, 0, none⟩), .int .i64 n] w fun e w' => e = .panicked [unmet] ∧ w = w' := by
  have c2 : w.cell? ⟨a, 2, none⟩ = some (.slice sb l.length c) := hb.cell 2
  have HM := Lib.hid (must_no w)
  clear hb
  rcases hn with hn | hn
  · have d1 : decide (0 ≤ n) = false := by simp; omega
    go_enter Tryz.func71, Tryz.ntmps71
    go_wp2_with (go_at_call 68; refine HM.out.mono ?_; rintro e w1 ⟨rfl, rfl⟩)
    exact ⟨rfl, rfl, rfl⟩
  · have d1 : decide (0 ≤ n) = true := by simp; omega
    have d2 : decide (n ≤ (l.length : Int)) = false := by simp; omega
    go_enter Tryz.func71, Tryz.ntmps71
    go_wp2_with (go_at_call 68; refine HM.out.mono ?_; rintro e w1 ⟨rfl, rfl⟩)
    exact ⟨rfl, rfl, rfl⟩
end
end Go.Proofs.YtajkmblcphdnbaaGreat
