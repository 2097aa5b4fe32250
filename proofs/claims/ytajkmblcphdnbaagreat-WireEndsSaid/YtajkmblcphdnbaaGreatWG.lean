import Derived.Test.YtajkmblcphdnbaaGreatWF
/-! The number that a reader takes. -/
namespace Go.Proofs.YtajkmblcphdnbaaGreat
open Go.RowKit
set_option linter.unusedVariables false
set_option linter.unusedSimpArgs false

/-- A number of bytes, the highest first. -/
def be (l : List Nat) : Nat := l.foldl (fun n b => n * 256 + b) 0
theorem be_snoc (l : List Nat) (b : Nat) : be (l ++ [b]) = be l * 256 + b := by simp [be]
theorem be_lt (l : List Nat) (h : ∀ x ∈ l, x < 256) : be l < 256 ^ l.length := by
  have key : ∀ n, ∀ l : List Nat, l.length = n → (∀ x ∈ l, x < 256) → be l < 256 ^ n := by
    intro n
    induction n with
    | zero => intro l hl _; rw [List.length_eq_zero_iff.1 hl]; simp [be]
    | succ n ih =>
      intro l hl h
      have h0 : l ≠ [] := by intro e; rw [e] at hl; cases hl
      rw [← List.dropLast_concat_getLast h0] at h ⊢
      have h1 := ih l.dropLast (by rw [List.length_dropLast]; omega) (fun x hx => h x (by simp [hx]))
      have h2 := h (l.getLast h0) (by simp)
      rw [be_snoc, Nat.pow_succ]
      omega
  exact key _ l rfl h
theorem be_take (l : List Nat) (j : Nat) (y : Nat) (h : l[j]? = some y) : be (l.take (j + 1)) = be (l.take j) * 256 + y := by
  obtain ⟨hj, rfl⟩ := List.getElem?_eq_some_iff.1 h
  rw [List.take_succ_eq_append_getElem hj, be_snoc]
theorem be_small (l : List Nat) (h : ∀ x ∈ l, x < 256) (j : Nat) (hj : j < 8) : be (l.take j) < 72057594037927936 := by
  have h1 := be_lt (l.take j) (fun x hx => h x (List.mem_of_mem_take hx))
  have h2 : 256 ^ (l.take j).length ≤ 256 ^ 7 := Nat.pow_le_pow_right (by omega) (by rw [List.length_take]; omega)
  exact Nat.lt_of_lt_of_le h1 h2
theorem or_be (N z : Nat) (hN : N < 72057594037927936) (hz : z < 256) : bits .or .u64 ((N : Int) * 256) (z : Int) = ((N * 256 + z : Nat) : Int) := by
  have e : ((N : Int) * 256) = ((N * 256 : Nat) : Int) := by omega
  rw [e, u64_or_nat _ _ (by omega) (by omega)]
  rw [show N * 256 = N <<< 8 from by rw [Nat.shiftLeft_eq], ← Nat.shiftLeft_add_eq_or_of_lt (by omega : z < 2 ^ 8)]

section
variable (a : Nat) (x y : Bool) (sl : Value) (l : List Nat) (w : World)
theorem number_yes (k : Nat) (hb : Blk w a 69 [.bool x, .bool y, sl]) (hs : Sl w sl l) (hl : ∀ z ∈ l, z < 256) (hk : k ≤ l.length) (hk8 : k ≤ 8) :
    Calls Tryz.prog 67 #[.pointer (some ⟨a, 0, none⟩), .int .i64 (k : Int)] w fun e w' => e = .returned (.int .u64 (be (l.take k) : Nat)) ∧ (∃ sl', Blk w' a 69 [.bool x, .bool y, sl'] ∧ Tl sl l sl' (l.drop k)) ∧ Og a w w' := by
  have HT := Lib.hid (take_yes a (.bool x) (.bool y) sl l w k hb hs hk)
  have HB := Lib.hid hb
  have HN := Lib.hid (no_u8 (x := x) (y := y) (s := sl) (by obtain ⟨a, c, rfl⟩ := hs.len; exact ⟨_, _, _, rfl⟩))
  have HL := Lib.hid hl
  clear hb hs hl
  go_enter Tryz.func67, Tryz.ntmps67
  go_wp2_with (go_at_call 71; refine HT.out.mono ?_; rintro e w1 ⟨v, rfl, hv, hb1, hog⟩; obtain ⟨va, vc, rfl⟩ := hv.len; (have e1 : (l.take k).length = k := by rw [List.length_take]; omega); rw [e1] at hv ⊢; (have HV := Lib.hid (hv.og HB.out HN.out hog)); (have HB1 := Lib.hid hb1); (have HOG := Lib.hid hog); clear hv hb1 hog)
  go_loopw [5, 12] (fun n i wr => ∃ j : Nat, j ≤ k ∧ i = .int .i64 j ∧ n = .int .u64 (be (l.take j) : Nat) ∧ wr = w1) (fun _ i _ => k - (intOf i).toNat)
  case atStart => exact ⟨0, by omega, rfl, rfl, rfl⟩
  case round =>
    obtain ⟨j, hj, rfl, rfl, rfl⟩ := hrel
    by_cases hlt : j < k
    · obtain ⟨z, hz⟩ : ∃ z, l[j]? = some z := ⟨_, List.getElem?_eq_getElem (by omega)⟩
      have hzt : (l.take k)[j]? = some z := by rw [List.getElem?_take, if_pos hlt]; exact hz
      have hz8 := HL.out z (List.mem_of_getElem? hz)
      have hbt := be_take l j z hz
      have hbs := be_small l HL.out j (by omega)
      obtain ⟨b, off, rfl, c0⟩ : ∃ b off, va = some ⟨b, off, none⟩ ∧ wr.cell? ⟨b, off + j, none⟩ = some (.int .u8 (z : Int)) := by
        rcases HV.out with ⟨_, h⟩ | ⟨b, off, c, h, _, _, hx⟩
        · rw [h] at hzt; cases hzt
        · simp only [Value.slice.injEq] at h
          obtain ⟨rfl, _, _⟩ := h
          exact ⟨b, off, rfl, hx j z hzt⟩
      have HBT := Lib.hid hbt
      clear hz hzt hbt
      generalize be (l.take j) = N at *
      go_wp2
      go_roundw
      case rel => exact ⟨j + 1, by omega, by go_num, by rw [HBT.out, or_be N z hbs hz8], trivial⟩
      case measure => simp [intOf]; omega
    · obtain rfl : j = k := by omega
      go_wp2
      go_ret
      exact ⟨rfl, HB1.out, HOG.out⟩
theorem number_no (k : Nat) (hb : Blk w a 69 [.bool x, .bool y, sl]) (hs : Sl w sl l) (hk : l.length < k) :
    Calls Tryz.prog 67 #[.pointer (some ⟨a, 0, none⟩), .int .i64 (k : Int)] w fun e w' => e = .panicked [unmet] ∧ w = w' := by
  obtain ⟨sb, c, rfl⟩ := hs.len
  have HT := Lib.hid (take_no a (.bool x) (.bool y) l w (k : Int) sb c hb (by omega))
  clear hb hs
  go_enter Tryz.func67, Tryz.ntmps67
  go_wp2_with (go_at_call 71; refine HT.out.mono ?_; rintro e w1 ⟨rfl, rfl⟩)
  exact ⟨rfl, rfl, rfl⟩
end
end Go.Proofs.YtajkmblcphdnbaaGreat
