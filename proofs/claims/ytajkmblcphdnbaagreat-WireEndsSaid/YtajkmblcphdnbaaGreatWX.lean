import Derived.Test.YtajkmblcphdnbaaGreatWV
/-! The reference's numbers: printed by genref.py. -/
namespace Go.Proofs.YtajkmblcphdnbaaGreat
open Go.RowKit
set_option linter.unusedVariables false
set_option linter.unusedSimpArgs false

theorem RfA.behind {w w' : World} {a : Nat} {l l' : List Nat} {sl : Value} (hs : Sl w sl l) (hl : ∀ x ∈ l, x < 256) (hb : Blk w a 47 [sl, .bool false]) (hx : ∀ x ∈ l', x ∈ l)
    (h : ∃ sl', Blk w' a 47 [sl', .bool false] ∧ Tl sl l sl' l') (q : Og a w w') : RfA w' a (some l') := by
  obtain ⟨sl', hb', ht⟩ := h
  exact ⟨⟨sl', hb', (ht _ hs).og hb (no_u8r hs.slice) q⟩, fun x h => hl x (hx x h)⟩
theorem rnumber_any (k a : Nat) (hk8 : k ≤ 8) (st : Option (List Nat)) (w : World) (hr : RfA w a st) : Calls Tryz.prog 91 #[.pointer (some ⟨a, 0, none⟩), .int .i64 (k : Int)] w fun e w' => e = .returned (.int .u64 (num k st : Nat)) ∧ RfA w' a (nxt k st) ∧ Og a w w' := by
  cases st with
  | none =>
    obtain ⟨b, n, c, hb⟩ := hr
    exact (rnumber_none a _ w _ true (rtake_bad a _ w _ hb)).mono (by rintro e w' ⟨rfl, h, q⟩; exact ⟨rfl, ⟨_, _, _, h⟩, q⟩)
  | some l =>
    obtain ⟨⟨sl, hb, hs⟩, hl⟩ := hr
    by_cases hk : k ≤ l.length
    · exact (rnumber_yes a sl l w k hb hs hl hk hk8).mono (by rintro e w' ⟨rfl, h, q⟩; rw [num, nxt, if_pos hk, if_pos hk]; exact ⟨rfl, RfA.behind hs hl hb (fun x hx => List.mem_of_mem_drop hx) h q, q⟩)
    · obtain ⟨sb, c, rfl⟩ := hs.len
      exact (rnumber_none a _ w _ true (rtake_no a l w _ sb c hb (.inr (by omega)))).mono (by rintro e w' ⟨rfl, h, q⟩; rw [num, nxt, if_neg hk, if_neg hk]; exact ⟨rfl, ⟨_, _, _, h⟩, q⟩)
theorem num_lt (k : Nat) (st : Option (List Nat)) (hl : ∀ l, st = some l → ∀ x ∈ l, x < 256) : num k st < 256 ^ k := by
  cases st with
  | none => exact Nat.pow_pos (by decide)
  | some l =>
    show (if k ≤ l.length then be (l.take k) else 0) < _
    by_cases h : k ≤ l.length
    · rw [if_pos h]
      have := be_lt (l.take k) (fun x hx => hl l rfl x (List.mem_of_mem_take hx))
      rwa [List.length_take, Nat.min_eq_left h] at this
    · rw [if_neg h]; exact Nat.pow_pos (by decide)
theorem RfA.lt {w : World} {a : Nat} {st : Option (List Nat)} (h : RfA w a st) : ∀ l, st = some l → ∀ x ∈ l, x < 256 := by
  rintro l rfl
  exact h.2
theorem rU8_any (a : Nat) (st : Option (List Nat)) (w : World) (hr : RfA w a st) : Calls Tryz.prog 51 #[.pointer (some ⟨a, 0, none⟩)] w fun e w' => e = .returned (.int .i64 (num 1 st : Nat)) ∧ RfA w' a (nxt 1 st) ∧ Og a w w' := by
  have HN := Lib.hid (rnumber_any 1 a (by omega) st w hr)
  have hv := num_lt 1 st hr.lt
  have hv' : num 1 st < 256 := Nat.lt_of_lt_of_le hv (by decide)
  clear hr hv
  generalize num 1 st = N at *
  go_enter Tryz.func51, Tryz.ntmps51
  go_wp2_with (go_at_call 91; refine HN.out.mono ?_; rintro e w1 ⟨rfl, h, q⟩; (have HH := Lib.hid h); (have HQ := Lib.hid q); clear h q)
  go_ret
  exact ⟨by go_num, HH.out, HQ.out⟩
theorem rU16_any (a : Nat) (st : Option (List Nat)) (w : World) (hr : RfA w a st) : Calls Tryz.prog 52 #[.pointer (some ⟨a, 0, none⟩)] w fun e w' => e = .returned (.int .i64 (num 2 st : Nat)) ∧ RfA w' a (nxt 2 st) ∧ Og a w w' := by
  have HN := Lib.hid (rnumber_any 2 a (by omega) st w hr)
  have hv := num_lt 2 st hr.lt
  have hv' : num 2 st < 65536 := Nat.lt_of_lt_of_le hv (by decide)
  clear hr hv
  generalize num 2 st = N at *
  go_enter Tryz.func52, Tryz.ntmps52
  go_wp2_with (go_at_call 91; refine HN.out.mono ?_; rintro e w1 ⟨rfl, h, q⟩; (have HH := Lib.hid h); (have HQ := Lib.hid q); clear h q)
  go_ret
  exact ⟨by go_num, HH.out, HQ.out⟩
theorem rU32_any (a : Nat) (st : Option (List Nat)) (w : World) (hr : RfA w a st) : Calls Tryz.prog 53 #[.pointer (some ⟨a, 0, none⟩)] w fun e w' => e = .returned (.int .i64 (num 4 st : Nat)) ∧ RfA w' a (nxt 4 st) ∧ Og a w w' := by
  have HN := Lib.hid (rnumber_any 4 a (by omega) st w hr)
  have hv := num_lt 4 st hr.lt
  have hv' : num 4 st < 4294967296 := Nat.lt_of_lt_of_le hv (by decide)
  clear hr hv
  generalize num 4 st = N at *
  go_enter Tryz.func53, Tryz.ntmps53
  go_wp2_with (go_at_call 91; refine HN.out.mono ?_; rintro e w1 ⟨rfl, h, q⟩; (have HH := Lib.hid h); (have HQ := Lib.hid q); clear h q)
  go_ret
  exact ⟨by go_num, HH.out, HQ.out⟩
theorem rU64_any (a : Nat) (st : Option (List Nat)) (w : World) (hr : RfA w a st) : Calls Tryz.prog 54 #[.pointer (some ⟨a, 0, none⟩)] w fun e w' => e = .returned (.int .u64 (num 8 st : Nat)) ∧ RfA w' a (nxt 8 st) ∧ Og a w w' := by
  have HN := Lib.hid (rnumber_any 8 a (by omega) st w hr)
  have hv := num_lt 8 st hr.lt
  have hv' : num 8 st < 18446744073709551616 := Nat.lt_of_lt_of_le hv (by decide)
  clear hr hv
  generalize num 8 st = N at *
  go_enter Tryz.func54, Tryz.ntmps54
  go_wp2_with (go_at_call 91; refine HN.out.mono ?_; rintro e w1 ⟨rfl, h, q⟩; (have HH := Lib.hid h); (have HQ := Lib.hid q); clear h q)
  go_ret
  exact ⟨by go_num, HH.out, HQ.out⟩
theorem rI64_any (a : Nat) (st : Option (List Nat)) (w : World) (hr : RfA w a st) : Calls Tryz.prog 55 #[.pointer (some ⟨a, 0, none⟩)] w fun e w' => e = .returned (.int .i64 (wrap64 (num 8 st : Nat))) ∧ RfA w' a (nxt 8 st) ∧ Og a w w' := by
  have HN := Lib.hid (rnumber_any 8 a (by omega) st w hr)
  have hv := num_lt 8 st hr.lt
  have hv' : num 8 st < 18446744073709551616 := Nat.lt_of_lt_of_le hv (by decide)
  clear hr hv
  generalize num 8 st = N at *
  go_enter Tryz.func55, Tryz.ntmps55
  go_wp2_with (go_at_call 91; refine HN.out.mono ?_; rintro e w1 ⟨rfl, h, q⟩; (have HH := Lib.hid h); (have HQ := Lib.hid q); clear h q)
  go_ret
  exact ⟨by go_num, HH.out, HQ.out⟩
end Go.Proofs.YtajkmblcphdnbaaGreat
