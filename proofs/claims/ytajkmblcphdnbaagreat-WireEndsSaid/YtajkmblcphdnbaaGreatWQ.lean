import Derived.Test.YtajkmblcphdnbaaGreatWF
/-! Copies. -/
namespace Go.Proofs.YtajkmblcphdnbaaGreat
open Go.RowKit
set_option linter.unusedVariables false
set_option linter.unusedSimpArgs false

theorem OQ.emptyNew {w : World} {base : Nat} {t : TypeId} (hb : base ≤ w.heap.size) : OQ (w.alloc (.cells #[] t)) base 1 (.slice (some ⟨w.heap.size, 0, none⟩) 0 0) 0 [] :=
  ⟨rfl, .inr ⟨w.heap.size, 0, 0, rfl, hb, by simp, Nat.le_refl _, by simp, fun j hj => absurd hj (by omega), fun j u hu => by simp at hu⟩⟩
theorem OQ.sl {w : World} {base : Nat} {v : Value} {l : List Nat} (h : OQ w base 1 v l.length (u8s l)) (hl : l.length ≤ 140737488355328) : Sl w v l := by
  obtain ⟨_, ⟨rfl, h0⟩ | ⟨g, off, cap, rfl, _, _, hn, hm, _, hx⟩⟩ := h
  · exact .inl ⟨⟨_, rfl⟩, List.length_eq_zero_iff.1 h0⟩
  · refine .inr ⟨g, off, cap, rfl, hn, ⟨by unfold maxLen at hm; omega, hl⟩, fun j y hy => hx j _ ?_⟩
    rw [u8s, List.getElem?_map, hy]; rfl
set_option maxRecDepth 100000 in
/-- slices.Clone. -/
theorem clone_any (v : Value) (l : List Nat) (w : World) (hs : Sl w v l) : Calls Tryz.prog 42 #[v] w fun e w' => ∃ r, e = .returned r ∧ OQ w' w.heap.size 1 r l.length (u8s l) ∧ Qt w w' := by
  obtain ⟨i0, hi0, hz0, hz1, hz2⟩ := info_parts (P := Tryz.prog) (e := 5) (z := .int .u8 0) (size := 1) (bytes := 1) (by kernel_rfl)
  have HI0 := Lib.hid hi0
  have HZ0 := Lib.hid hz0
  have HZ1 := Lib.hid hz1
  have HZ2 := Lib.hid hz2
  clear hi0 hz0 hz1 hz2
  have HV := Lib.hid hs.rd
  have hle := hs.le
  have hcs : (v = .slice none 0 0 ∧ l = []) ∨ ∃ ad c, v = .slice (some ad) l.length c := by
    rcases hs with ⟨⟨a0, rfl⟩, rfl⟩ | ⟨b, off, c, rfl, _⟩
    · cases a0 with
      | none => exact .inl ⟨rfl, rfl⟩
      | some ad => exact .inr ⟨ad, 0, rfl⟩
    · exact .inr ⟨_, c, rfl⟩
  clear hs
  rcases hcs with ⟨rfl, rfl⟩ | ⟨ad, c, rfl⟩
  · have HE : ∀ w, (binOp .eql 26 (.slice none 0 0) (.slice none 0 0)).run Tryz.prog w = .ok (.bool true) w := fun w => by kernel_rfl
    go_enter Tryz.func42, Tryz.ntmps42
    go_wp2
    go_ret
    exact ⟨_, rfl, OQ.nil _ _ _, Qt.refl _⟩
  · have HE : ∀ w, (binOp .eql 26 (.slice (some ad) l.length c) (.slice none 0 0)).run Tryz.prog w = .ok (.bool false) w := fun w => by kernel_rfl
    go_enter Tryz.func42, Tryz.ntmps42
    go_wp2_with (at_builtin; go_must (refine wp_appQ rfl (.tmp 5) (.tmp 6) 26 26 rfl w.heap.size 5 i0 (.int .u8 0) 1 1 (by kernel_rfl) HI0.out HZ0.out HZ1.out HZ2.out rfl _ 0 [] rfl (OQ.emptyNew (Nat.le_refl _)) _ l.length (u8s l) rfl (Src.ofRd (e' := 5) (by kernel_rfl) (HV.out.below ((Qt.refl w).alloc _)) (by rw [u8s_len, Nat.mul_one]) (by decide) (u8s_one1 l)) (by unfold maxLen; omega) (by omega) (by simp) ?_); intro v2 w2 h1 h2 h3; rw [Nat.zero_add, List.nil_append] at h1; (have hb2 := below_app (hb := (Below.refl w.heap.size w).alloc (Nat.le_refl _) _) (OQ.emptyNew (Nat.le_refl _)) h2); obtain ⟨a2, c2, rfl⟩ := h1.slice; (have H1 := Lib.hid h1); (have HB2 := Lib.hid hb2); clear h1 h2 h3 hb2)
    go_ret
    exact ⟨_, rfl, H1.out, HB2.out⟩
end Go.Proofs.YtajkmblcphdnbaaGreat
