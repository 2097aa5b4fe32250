import Derived.Test.YtajkmblcphdnbaaGreatWU
/-! The reference's number. -/
namespace Go.Proofs.YtajkmblcphdnbaaGreat
open Go.RowKit
set_option linter.unusedVariables false
set_option linter.unusedSimpArgs false

section
variable (a : Nat) (sl : Value) (l : List Nat) (w : World)
theorem rnumber_yes (k : Nat) (hb : Blk w a 47 [sl, .bool false]) (hs : Sl w sl l) (hl : ∀ z ∈ l, z < 256) (hk : k ≤ l.length) (hk8 : k ≤ 8) :
    Calls Tryz.prog 91 #[.pointer (some ⟨a, 0, none⟩), .int .i64 (k : Int)] w fun e w' => e = .returned (.int .u64 (be (l.take k) : Nat)) ∧ (∃ sl', Blk w' a 47 [sl', .bool false] ∧ Tl sl l sl' (l.drop k)) ∧ Og a w w' := by
  have HT := Lib.hid (rtake_yes a sl l w k hb hs hk)
  have HB := Lib.hid hb
  have HN := Lib.hid (no_u8r (x := false) (s := sl) hs.slice)
  have HL := Lib.hid hl
  clear hb hs hl
  go_enter Tryz.func91, Tryz.ntmps91
  go_wp2_with (go_at_call 92; refine HT.out.mono ?_; rintro e w1 ⟨v, rfl, hv, hb1, hog⟩; obtain ⟨va, vc, rfl⟩ := hv.len; (have e1 : (l.take k).length = k := by rw [List.length_take]; omega); rw [e1] at hv ⊢; (have HV := Lib.hid (hv.og HB.out HN.out hog)); (have HB1 := Lib.hid hb1); (have HOG := Lib.hid hog); clear hv hb1 hog)
  go_loopw [6, 7] (fun n i wr => ∃ j : Nat, j ≤ k ∧ i = .int .i64 j ∧ n = .int .u64 (be (l.take j) : Nat) ∧ wr = w1) (fun _ i _ => k - (intOf i).toNat)
  case atStart => exact ⟨0, by omega, rfl, rfl, rfl⟩
  case round =>
    obtain ⟨j, hj, rfl, rfl, rfl⟩ := hrel
    by_cases hlt : j < k
    · obtain ⟨z, hz⟩ : ∃ z, l[j]? = some z := ⟨_, List.getElem?_eq_getElem (by omega)⟩
      have hzt : (l.take k)[j]? = some z := by rw [List.getElem?_take, if_pos hlt]; exact hz
      have hz8 := HL.out z (List.mem_of_getElem? hz)
      have hbt := be_take l j z hz
      have hbs := be_small l HL.out j (by omega)
      obtain ⟨b, off, rfl, c0⟩ : ∃ b off, va = some ⟨b, off, none⟩ ∧ wr.cell? ⟨b, off + j, none⟩ = some (.int .u8 (z : Int)) := by
        rcases HV.out with ⟨_, h⟩ | ⟨b, off, c, h, _, _, hx⟩
        · rw [h] at hzt; cases hzt
        · simp only [Value.slice.injEq] at h
          obtain ⟨rfl, _, _⟩ := h
          exact ⟨b, off, rfl, hx j z hzt⟩
      have HBT := Lib.hid hbt
      clear hz hzt hbt
      generalize be (l.take j) = N at *
      go_wp2
      go_roundw
      case rel => exact ⟨j + 1, by omega, by go_num, by rw [HBT.out]; go_num, trivial⟩
      case measure => simp [intOf]; omega
    · obtain rfl : j = k := by omega
      go_wp2
      go_ret
      exact ⟨rfl, HB1.out, HOG.out⟩
theorem rnumber_none (n : Int) (b1 : Bool) (hk : Calls Tryz.prog 92 #[.pointer (some ⟨a, 0, none⟩), .int .i64 n] w fun e w' => e = .returned (.slice none 0 0) ∧ Blk w' a 47 [sl, .bool b1] ∧ Og a w w') :
    Calls Tryz.prog 91 #[.pointer (some ⟨a, 0, none⟩), .int .i64 n] w fun e w' => e = .returned (.int .u64 0) ∧ Blk w' a 47 [sl, .bool b1] ∧ Og a w w' := by
  have HT := Lib.hid hk
  clear hk
  go_enter Tryz.func91, Tryz.ntmps91
  go_wp2_with (go_at_call 92; refine HT.out.mono ?_; rintro e w1 ⟨rfl, hb1, hog⟩; (have HB1 := Lib.hid hb1); (have HOG := Lib.hid hog); clear hb1 hog)
  go_loopw [6, 7] (fun n i wr => i = .int .i64 0 ∧ n = .int .u64 0 ∧ wr = w1) (fun _ _ _ => 0)
  case atStart => exact ⟨rfl, rfl, rfl⟩
  case round =>
    obtain ⟨rfl, rfl, rfl⟩ := hrel
    go_wp2
    go_ret
    exact ⟨rfl, HB1.out, HOG.out⟩
end
end Go.Proofs.YtajkmblcphdnbaaGreat
