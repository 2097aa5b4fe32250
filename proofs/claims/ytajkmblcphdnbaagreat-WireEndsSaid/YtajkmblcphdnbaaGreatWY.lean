import Derived.Test.YtajkmblcphdnbaaGreatWZ
import Derived.Test.YtajkmblcphdnbaaGreatWS
import Derived.Test.YtajkmblcphdnbaaGreatWO
/-! The reference's End, Count, Flag, Text, Raw. -/
namespace Go.Proofs.YtajkmblcphdnbaaGreat
open Go.RowKit
set_option linter.unusedVariables false
set_option linter.unusedSimpArgs false

theorem rEnd_any (a : Nat) (st : Option (List Nat)) (w : World) (hr : RfA w a st) : Calls Tryz.prog 63 #[.pointer (some ⟨a, 0, none⟩)] w fun e w' => e = .returned (.bool (st == some [])) ∧ w = w' := by
  cases st with
  | none =>
    obtain ⟨_, _, _, hb⟩ := hr
    have c1 : w.cell? ⟨a, 1, none⟩ = some (.bool true) := hb.cell 1
    clear hb
    go_enter Tryz.func63, Tryz.ntmps63
    go_wp2
    go_ret
    exact ⟨rfl, rfl⟩
  | some l =>
    obtain ⟨⟨sl, hb, hs⟩, _⟩ := hr
    obtain ⟨sb, sc, rfl⟩ := hs.len
    have c0 : w.cell? ⟨a, 0, none⟩ = some (.slice sb l.length sc) := hb.cell 0
    have c1 : w.cell? ⟨a, 1, none⟩ = some (.bool false) := hb.cell 1
    have he : (some l == some []) = decide ((l.length : Int) = 0) := by
      cases l with
      | nil => rfl
      | cons x l => simp; omega
    rw [he]
    clear hb hs he
    go_enter Tryz.func63, Tryz.ntmps63
    go_wp2
    go_ret
    exact ⟨by simp; rw [Bool.eq_iff_iff]; simp, rfl⟩

/-- What is known of the block of the reference's reader. -/
theorem RfA.blk {w : World} {a : Nat} {st : Option (List Nat)} (h : RfA w a st) : ∃ b n c, Blk w a 47 [.slice b n c, .bool st.isNone] := by
  cases st with
  | none => exact h
  | some l => obtain ⟨⟨sl, hb, hs⟩, _⟩ := h; obtain ⟨b, c, rfl⟩ := hs.len; exact ⟨_, _, _, hb⟩
/-- It is spoilt, and its bytes are set back. -/
theorem rf_back {w : World} {a : Nat} {x y : Value} {b : Option Addr} {n c : Nat} (hb : Blk w a 47 [x, y]) : RfA ((w.setCell ⟨a, 1, none⟩ (.bool true)).setCell ⟨a, 0, none⟩ (.slice b n c)) a none ∧ Og a w ((w.setCell ⟨a, 1, none⟩ (.bool true)).setCell ⟨a, 0, none⟩ (.slice b n c)) :=
  ⟨⟨_, _, _, (hb.set 1 (.bool true)).set 0 (.slice b n c)⟩, ((Og.refl a w).setCell (.inl rfl) _).setCell (.inl rfl) _⟩

theorem cnt_bad {most : Int} {st : Option (List Nat)} (h : nxt 2 st = none ∨ most < (num 2 st : Nat)) : cntV most st = 0 ∧ cntN most st = none := by
  cases st with
  | none => exact ⟨rfl, rfl⟩
  | some l =>
    have hc : ¬(2 ≤ l.length ∧ (be (l.take 2) : Int) ≤ most) := by
      rintro ⟨h2, hm⟩
      rw [nxt, num, if_pos h2, if_pos h2] at h
      rcases h with h | h
      · cases h
      · omega
    exact ⟨if_neg hc, if_neg hc⟩
theorem cnt_good {most : Int} {st : Option (List Nat)} {l2 : List Nat} (h : nxt 2 st = some l2) (hm : (num 2 st : Nat) ≤ most) : cntV most st = num 2 st ∧ cntN most st = nxt 2 st := by
  cases st with
  | none => cases h
  | some l =>
    by_cases h2 : 2 ≤ l.length
    · rw [num, if_pos h2] at hm
      rw [num, nxt, if_pos h2, if_pos h2]
      exact ⟨if_pos ⟨h2, hm⟩, if_pos ⟨h2, hm⟩⟩
    · rw [nxt, if_neg h2] at h; cases h
theorem rCount_any (a : Nat) (most : Int) (st : Option (List Nat)) (w : World) (hr : RfA w a st) : Calls Tryz.prog 60 #[.pointer (some ⟨a, 0, none⟩), .int .i64 most] w fun e w' => e = .returned (.int .i64 (cntV most st : Nat)) ∧ RfA w' a (cntN most st) ∧ Og a w w' := by
  obtain ⟨b0, n0, k0, hb0⟩ := hr.blk
  have c0 : w.cell? ⟨a, 0, none⟩ = some (.slice b0 n0 k0) := hb0.cell 0
  have HN := Lib.hid (rU16_any a st w hr)
  clear hb0 hr
  by_cases hbad : nxt 2 st = none ∨ most < (num 2 st : Nat)
  · obtain ⟨e1, e2⟩ := cnt_bad hbad
    rw [e1, e2]
    clear e1 e2
    generalize num 2 st = N at *
    cases hn : nxt 2 st with
    | none =>
      rw [hn] at HN
      clear hn hbad
      go_enter Tryz.func60, Tryz.ntmps60
      go_wp2_with (go_at_call 52; refine HN.out.mono ?_; rintro e w1 ⟨rfl, h, q⟩; obtain ⟨b1, n1, k1, hb1⟩ := h.blk; (have d1 : w1.cell? ⟨a, 1, none⟩ = some (.bool true) := hb1.cell 1); (have d0 : w1.cell? ⟨a, 0, none⟩ = some (.slice b1 n1 k1) := hb1.cell 0); (have g1 : w1.frozen? ⟨a, 1, none⟩ = false := hb1.frozen 1); (have g0 : w1.frozen? ⟨a, 0, none⟩ = false := hb1.frozen 0); (have HB := Lib.hid hb1); (have HQ := Lib.hid q); clear h hb1 q)
      go_ret
      exact ⟨rfl, (rf_back HB.out).1, HQ.out.trans (rf_back HB.out).2⟩
    | some l2 =>
      have hm : most < (N : Int) := by
        rcases hbad with h | h
        · rw [hn] at h; cases h
        · exact h
      have hd : decide (most < (N : Int)) = true := by simpa using hm
      rw [hn] at HN
      clear hn hbad hm
      go_enter Tryz.func60, Tryz.ntmps60
      go_wp2_with (go_at_call 52; refine HN.out.mono ?_; rintro e w1 ⟨rfl, h, q⟩; obtain ⟨b1, n1, k1, hb1⟩ := h.blk; (have d1 : w1.cell? ⟨a, 1, none⟩ = some (.bool false) := hb1.cell 1); (have d0 : w1.cell? ⟨a, 0, none⟩ = some (.slice b1 n1 k1) := hb1.cell 0); (have g1 : w1.frozen? ⟨a, 1, none⟩ = false := hb1.frozen 1); (have g0 : w1.frozen? ⟨a, 0, none⟩ = false := hb1.frozen 0); (have HB := Lib.hid hb1); (have HQ := Lib.hid q); clear h hb1 q)
      go_ret
      exact ⟨rfl, (rf_back HB.out).1, HQ.out.trans (rf_back HB.out).2⟩
  · obtain ⟨l2, hl2⟩ : ∃ l2, nxt 2 st = some l2 := by
      cases h : nxt 2 st with
      | none => exact absurd (.inl h) hbad
      | some l2 => exact ⟨l2, rfl⟩
    have hm : ((num 2 st : Nat) : Int) ≤ most := by
      rcases Int.lt_or_le most (num 2 st : Nat) with h | h
      · exact absurd (.inr h) hbad
      · exact h
    obtain ⟨e1, e2⟩ := cnt_good hl2 hm
    rw [e1, e2]
    clear e1 e2 hbad
    generalize num 2 st = N at *
    have hd : decide (most < (N : Int)) = false := by simp; omega
    rw [hl2] at HN ⊢
    clear hl2 hm
    go_enter Tryz.func60, Tryz.ntmps60
    go_wp2_with (go_at_call 52; refine HN.out.mono ?_; rintro e w1 ⟨rfl, h, q⟩; obtain ⟨b1, n1, k1, hb1⟩ := h.blk; (have d1 : w1.cell? ⟨a, 1, none⟩ = some (.bool false) := hb1.cell 1); (have HH := Lib.hid h); (have HQ := Lib.hid q); clear h hb1 q)
    go_ret
    exact ⟨rfl, HH.out, HQ.out⟩

theorem rFlag_any (a : Nat) (st : Option (List Nat)) (w : World) (hr : RfA w a st) : Calls Tryz.prog 59 #[.pointer (some ⟨a, 0, none⟩)] w fun e w' => e = .returned (.bool (flagV st)) ∧ RfA w' a (flagN st) ∧ Og a w w' := by
  obtain ⟨b0, n0, k0, hb0⟩ := hr.blk
  have f1 : w.frozen? ⟨a, 1, none⟩ = false := hb0.frozen 1
  have c1 : w.cell? ⟨a, 1, none⟩ = some (.bool st.isNone) := hb0.cell 1
  have hq : Og a w (w.setCell ⟨a, 1, none⟩ (.bool true)) := (Og.refl a w).setCell (.inl rfl) _
  have HB := Lib.hid (show RfA (w.setCell ⟨a, 1, none⟩ (.bool true)) a none from ⟨_, _, _, hb0.set 1 _⟩)
  have HQ := Lib.hid hq
  have HN := Lib.hid (rU8_any a st w hr)
  clear hq
  cases st with
  | none =>
    have c1 : w.cell? ⟨a, 1, none⟩ = some (.bool true) := c1
    clear hr hb0
    go_enter Tryz.func59, Tryz.ntmps59
    go_wp2
    go_ret
    exact ⟨rfl, HB.out, HQ.out⟩
  | some l =>
    have c1 : w.cell? ⟨a, 1, none⟩ = some (.bool false) := c1
    clear hb0
    obtain ⟨⟨sl, hb, hs⟩, hlt⟩ := hr
    have c0 : w.cell? ⟨a, 0, none⟩ = some sl := hb.cell 0
    clear hb
    rcases hs with ⟨⟨a0, rfl⟩, rfl⟩ | ⟨b, off, c, rfl, hc, hm, hx⟩
    · go_enter Tryz.func59, Tryz.ntmps59
      go_wp2
      go_ret
      exact ⟨rfl, HB.out, HQ.out⟩
    · cases l with
      | nil =>
        clear hx
        go_enter Tryz.func59, Tryz.ntmps59
        go_wp2
        go_ret
        exact ⟨rfl, HB.out, HQ.out⟩
      | cons x t =>
        have cx : w.cell? ⟨b, off, none⟩ = some (.int .u8 (x : Int)) := hx 0 x rfl
        have hx8 := hlt x (by simp)
        have hlen : 0 < (x :: t).length := by simp
        have e0 : be ((x :: t).take 1) = x := by simp [be]
        have e1 : num 1 (some (x :: t)) = x := by rw [num, if_pos (by simp), e0]
        have e2 : nxt 1 (some (x :: t)) = some t := by rw [nxt, if_pos (by simp)]; rfl
        rw [e1, e2] at HN
        have hne : decide (((x :: t).length : Int) = 0) = false := by simp; omega
        have hm1 := hm.1
        by_cases hx1 : x < 2
        · have e3 : flagV (some (x :: t)) = decide ((x : Int) = 1) := by rw [flagV, if_pos ⟨by simp, by rw [e0]; exact hx1⟩, e0, Bool.eq_iff_iff]; simp; omega
          have e4 : flagN (some (x :: t)) = some t := by rw [flagN, if_pos ⟨by simp, by rw [e0]; exact hx1⟩]; rfl
          rw [e3, e4]
          have hd : decide (1 < (x : Int)) = false := by simp; omega
          clear e0 e1 e2 e3 e4 hx hlt hx1 hm
          generalize (x :: t).length = n at *
          go_enter Tryz.func59, Tryz.ntmps59
          go_wp2_with (go_at_call 51; refine HN.out.mono ?_; rintro e w1 ⟨rfl, h, q⟩; (have HH := Lib.hid h); (have HQ1 := Lib.hid q); clear h q)
          go_ret
          exact ⟨by simp; rw [Bool.eq_iff_iff]; simp, HH.out, HQ1.out⟩
        · have e3 : flagV (some (x :: t)) = false := by rw [flagV, if_neg (by rw [e0]; omega)]
          have e4 : flagN (some (x :: t)) = none := by rw [flagN, if_neg (by rw [e0]; omega)]
          rw [e3, e4]
          have hd : decide (1 < (x : Int)) = true := by simp; omega
          clear e0 e1 e2 e3 e4 hx hlt hx1 hm HN
          generalize (x :: t).length = n at *
          go_enter Tryz.func59, Tryz.ntmps59
          go_wp2
          go_ret
          exact ⟨rfl, HB.out, HQ.out⟩

theorem RfA.qt {w w' : World} {a : Nat} {st : Option (List Nat)} (h : RfA w a st) (q : Qt w w') : RfA w' a st := by
  cases st with
  | none => obtain ⟨_, _, _, hb⟩ := h; exact ⟨_, _, _, hb.qt q⟩
  | some l => obtain ⟨⟨sl, hb, hs⟩, hl⟩ := h; exact ⟨⟨sl, hb.qt q, hs.qt q⟩, hl⟩
theorem RfA.og {w w' : World} {a g : Nat} {t : TypeId} {c : List Value} {st : Option (List Nat)} (h : RfA w a st) (hg : Blk w g t c) (hc : ∀ x ∈ c, ∀ k : Int, x ≠ .int .u8 k) (hne : a ≠ g) (q : Og g w w') : RfA w' a st := by
  cases st with
  | none => obtain ⟨_, _, _, hb⟩ := h; exact ⟨_, _, _, hb.og q hne⟩
  | some l => obtain ⟨⟨sl, hb, hs⟩, hl⟩ := h; exact ⟨⟨sl, hb.og q hne, hs.og hg hc q⟩, hl⟩
/-- take, whatever the reader. -/
theorem rtake_any (a : Nat) (n : Int) (st : Option (List Nat)) (w : World) (hr : RfA w a st) : Calls Tryz.prog 92 #[.pointer (some ⟨a, 0, none⟩), .int .i64 n] w fun e w' => ∃ v, e = .returned v ∧ Sl w' v (rawB n st) ∧ RfA w' a (rawN n st) ∧ Og a w w' := by
  cases st with
  | none =>
    obtain ⟨_, _, _, hb⟩ := hr
    exact (rtake_bad a _ w n hb).mono (by rintro e w' ⟨rfl, h, q⟩; exact ⟨_, rfl, .inl ⟨⟨_, rfl⟩, rfl⟩, ⟨_, _, _, h⟩, q⟩)
  | some l =>
    obtain ⟨⟨sl, hb, hs⟩, hl⟩ := hr
    by_cases hk : RawC n l
    · obtain ⟨k, rfl⟩ := Int.eq_ofNat_of_zero_le hk.1
      have e1 : rawB (k : Int) (some l) = l.take k := by rw [rawB, if_pos hk]; rfl
      have e2 : rawN (k : Int) (some l) = some (l.drop k) := by rw [rawN, if_pos hk]; rfl
      rw [e1, e2]
      exact (rtake_yes a sl l w k hb hs (by have := hk.2; omega)).mono (by
        rintro e w' ⟨v, rfl, hv, h, q⟩
        exact ⟨v, rfl, hv.og hb (no_u8r hs.slice) q, RfA.behind hs hl hb (fun x hx => List.mem_of_mem_drop hx) h q, q⟩)
    · have e1 : rawB n (some l) = [] := by rw [rawB, if_neg hk]
      have e2 : rawN n (some l) = none := by rw [rawN, if_neg hk]
      rw [e1, e2]
      obtain ⟨sb, c, rfl⟩ := hs.len
      exact (rtake_no a l w n sb c hb (by unfold RawC at hk; omega)).mono (by
        rintro e w' ⟨rfl, h, q⟩
        exact ⟨_, rfl, .inl ⟨⟨_, rfl⟩, rfl⟩, ⟨_, _, _, h⟩, q⟩)
set_option maxRecDepth 100000 in
theorem rRaw_any (a : Nat) (n : Int) (st : Option (List Nat)) (w : World) (hr : RfA w a st) : Calls Tryz.prog 57 #[.pointer (some ⟨a, 0, none⟩), .int .i64 n] w fun e w' => ∃ r, e = .returned r ∧ OQ w' w.heap.size 1 r (rawB n st).length (u8s (rawB n st)) ∧ RfA w' a (rawN n st) ∧ Og a w w' := by
  obtain ⟨i0, hi0, hz0, hz1, hz2⟩ := info_parts (P := Tryz.prog) (e := 5) (z := .int .u8 0) (size := 1) (bytes := 1) (by kernel_rfl)
  have HI0 := Lib.hid hi0
  have HZ0 := Lib.hid hz0
  have HZ1 := Lib.hid hz1
  have HZ2 := Lib.hid hz2
  clear hi0 hz0 hz1 hz2
  have hr1 := hr.qt ((Qt.refl w).alloc (.cells #[] 5))
  have hle : (rawB n st).length ≤ 140737488355328 := by
    cases st with
    | none => exact Nat.zero_le _
    | some l =>
      obtain ⟨⟨sl, hb, hs⟩, _⟩ := hr
      have := hs.le
      by_cases hk : RawC n l
      · rw [rawB, if_pos hk, List.length_take]; omega
      · rw [rawB, if_neg hk]; exact Nat.zero_le _
  have hlt := hr.blk
  obtain ⟨_, _, _, hb0⟩ := hlt
  have hlt := hb0.lt
  have HN := Lib.hid (rtake_any a n st _ hr1)
  clear hr hr1 hb0
  generalize rawB n st = B at *
  go_enter Tryz.func57, Tryz.ntmps57
  go_wp2_with (first
    | (go_at_call 92; refine HN.out.mono ?_; rintro e w1 ⟨v, rfl, hv, h, q⟩; obtain ⟨va, vc, rfl⟩ := hv.len; (have HV := Lib.hid hv); (have HH := Lib.hid h); (have HQ := Lib.hid q); clear hv h q)
    | (at_builtin; refine wp_appQ rfl (.tmp 5) (.tmp 8) 26 26 rfl w.heap.size 5 i0 (.int .u8 0) 1 1 (by kernel_rfl) HI0.out HZ0.out HZ1.out HZ2.out rfl _ 0 [] rfl ((OQ.emptyNew (Nat.le_refl _)).keep HQ.out.size (fun g hg => HQ.out.block g (by cases hg; simp) (by cases hg; simp; omega))) _ B.length (u8s B) rfl (Src.ofRd (e' := 5) (by kernel_rfl) HV.out.rd (by rw [u8s_len, Nat.mul_one]) (by decide) (u8s_one1 B)) (by unfold maxLen; omega) (by omega) (by have := HQ.out.size; simp at this; omega) ?_; intro v2 w2 h1 h2 h3; rw [Nat.zero_add, List.nil_append] at h1; obtain ⟨a2, c2, rfl⟩ := h1.slice; (have H1 := Lib.hid h1); (have H2 := Lib.hid h2); (have H3 := Lib.hid h3); clear h1 h2 h3))
  go_ret
  have hb0 : Blk (w.alloc (.cells #[] 5)) w.heap.size 5 [] := heap_alloc_new w _
  have hb1 := hb0.og HQ.out (by omega)
  have h2 : Og w.heap.size w1 _ := H2.out
  have hq0 : Og a w (w.alloc (.cells #[] 5)) := ((Qt.refl w).alloc _).og
  have hq1 := hq0.trans HQ.out
  exact ⟨_, rfl, H1.out, HH.out.og hb1 (fun x hx => by cases hx) (by omega) h2, ⟨h2.os.trans hq1.os, h2.tape.trans hq1.tape, h2.output.trans hq1.output, Nat.le_trans hq1.size h2.size, fun k hk hn => (h2.block k (Nat.lt_of_lt_of_le hk hq1.size) (fun e => by cases e; omega)).trans (hq1.block k hk hn)⟩⟩

theorem text_none {most : Int} {st : Option (List Nat)} (h : rawN (num 2 st : Nat) (nxt 2 st) = none ∨ most < (num 2 st : Nat)) : textV most st = str [] ∧ textN most st = none := by
  cases st with
  | none => exact ⟨rfl, rfl⟩
  | some l =>
    have hc : ¬TextC most l := by
      rintro ⟨h2, hm, hl⟩
      rw [nxt, num, if_pos h2, if_pos h2] at h
      rcases h with h | h
      · rw [rawN, if_pos ⟨by omega, by rw [List.length_drop]; omega⟩] at h; cases h
      · omega
    exact ⟨congrArg str (if_neg hc), if_neg hc⟩
theorem text_some {most : Int} {st : Option (List Nat)} {l2 : List Nat} (h : rawN (num 2 st : Nat) (nxt 2 st) = some l2) (hm : (num 2 st : Nat) ≤ most) : textV most st = str (rawB (num 2 st : Nat) (nxt 2 st)) ∧ textN most st = some l2 := by
  cases st with
  | none => cases h
  | some l =>
    by_cases h2 : 2 ≤ l.length
    · rw [num, if_pos h2] at hm
      rw [num, nxt, if_pos h2, if_pos h2] at h ⊢
      by_cases hr : RawC (be (l.take 2) : Nat) (l.drop 2)
      · have hc : TextC most l := ⟨h2, hm, by have := hr.2; rw [List.length_drop] at this; omega⟩
        rw [rawN, if_pos hr] at h
        rw [rawB, if_pos hr]
        cases h
        exact ⟨congrArg str (if_pos hc), if_pos hc⟩
      · rw [rawN, if_neg hr] at h; cases h
    · rw [nxt, if_neg h2] at h; cases h
set_option maxRecDepth 100000 in
theorem rText_any (a : Nat) (most : Int) (st : Option (List Nat)) (w : World) (hr : RfA w a st) : Calls Tryz.prog 58 #[.pointer (some ⟨a, 0, none⟩), .int .i64 most] w fun e w' => e = .returned (.string (textV most st)) ∧ RfA w' a (textN most st) ∧ Og a w w' := by
  obtain ⟨b0, n0, k0, hb0⟩ := hr.blk
  have c0 : w.cell? ⟨a, 0, none⟩ = some (.slice b0 n0 k0) := hb0.cell 0
  have HN := Lib.hid (rU16_any a st w hr)
  have HT := Lib.hid (fun w1 (h : RfA w1 a (nxt 2 st)) => rtake_any a (num 2 st : Nat) (nxt 2 st) w1 h)
  clear hb0 hr
  by_cases hbad : rawN (num 2 st : Nat) (nxt 2 st) = none ∨ most < (num 2 st : Nat)
  · obtain ⟨e1, e2⟩ := text_none hbad
    rw [e1, e2]
    clear e1 e2
    obtain ⟨st2, hst2⟩ : ∃ st2, st2 = rawN (num 2 st : Nat) (nxt 2 st) := ⟨_, rfl⟩
    obtain ⟨N, hN⟩ : ∃ N, N = num 2 st := ⟨_, rfl⟩
    obtain ⟨B, hB⟩ : ∃ B, B = rawB (num 2 st : Nat) (nxt 2 st) := ⟨_, rfl⟩
    rw [← hst2, ← hN] at hbad
    rw [← hst2, ← hB, ← hN] at HT
    rw [← hN] at HN
    clear hst2 hB hN
    cases st2 with
    | none =>
      clear hbad
      go_enter Tryz.func58, Tryz.ntmps58
      go_wp2_with (first
        | (go_at_call 52; refine HN.out.mono ?_; rintro e w1 ⟨rfl, h, q⟩; (have HH := Lib.hid (HT.out _ h)); (have HQ := Lib.hid q); clear h q)
        | (go_at_call 92; refine HH.out.mono ?_; rintro e w2 ⟨v, rfl, hv, h, q⟩; obtain ⟨b1, n1, k1, hb1⟩ := h.blk; (have d1 : w2.cell? ⟨a, 1, none⟩ = some (.bool true) := hb1.cell 1); (have d0 : w2.cell? ⟨a, 0, none⟩ = some (.slice b1 n1 k1) := hb1.cell 0); (have g1 : w2.frozen? ⟨a, 1, none⟩ = false := hb1.frozen 1); (have g0 : w2.frozen? ⟨a, 0, none⟩ = false := hb1.frozen 0); (have HB := Lib.hid hb1); (have HQ2 := Lib.hid q); clear hv h hb1 q))
      go_ret
      exact ⟨rfl, (rf_back HB.out).1, (HQ.out.trans HQ2.out).trans (rf_back HB.out).2⟩
    | some l2 =>
      have hm : most < (N : Int) := by
        rcases hbad with h | h
        · cases h
        · exact h
      have hd : decide (most < (N : Int)) = true := by simpa using hm
      clear hbad hm
      go_enter Tryz.func58, Tryz.ntmps58
      go_wp2_with (first
        | (go_at_call 52; refine HN.out.mono ?_; rintro e w1 ⟨rfl, h, q⟩; (have HH := Lib.hid (HT.out _ h)); (have HQ := Lib.hid q); clear h q)
        | (go_at_call 92; refine HH.out.mono ?_; rintro e w2 ⟨v, rfl, hv, h, q⟩; obtain ⟨b1, n1, k1, hb1⟩ := h.blk; (have d1 : w2.cell? ⟨a, 1, none⟩ = some (.bool false) := hb1.cell 1); (have d0 : w2.cell? ⟨a, 0, none⟩ = some (.slice b1 n1 k1) := hb1.cell 0); (have g1 : w2.frozen? ⟨a, 1, none⟩ = false := hb1.frozen 1); (have g0 : w2.frozen? ⟨a, 0, none⟩ = false := hb1.frozen 0); (have HB := Lib.hid hb1); (have HQ2 := Lib.hid q); clear hv h hb1 q))
      go_ret
      exact ⟨rfl, (rf_back HB.out).1, (HQ.out.trans HQ2.out).trans (rf_back HB.out).2⟩
  · obtain ⟨l2, hl2⟩ : ∃ l2, rawN (num 2 st : Nat) (nxt 2 st) = some l2 := by
      cases h : rawN (num 2 st : Nat) (nxt 2 st) with
      | none => exact absurd (.inl h) hbad
      | some l2 => exact ⟨l2, rfl⟩
    have hm : ((num 2 st : Nat) : Int) ≤ most := by
      rcases Int.lt_or_le most (num 2 st : Nat) with h | h
      · exact absurd (.inr h) hbad
      · exact h
    obtain ⟨e1, e2⟩ := text_some hl2 hm
    rw [e1, e2]
    rw [hl2] at HT
    clear e1 e2 hbad hl2
    obtain ⟨N, hN⟩ : ∃ N, N = num 2 st := ⟨_, rfl⟩
    obtain ⟨B, hB⟩ : ∃ B, B = rawB (num 2 st : Nat) (nxt 2 st) := ⟨_, rfl⟩
    rw [← hB, ← hN] at HT
    rw [← hB]
    rw [← hN] at HN hm
    clear hB hN
    have hd : decide (most < (N : Int)) = false := by simp; omega
    clear hm
    go_enter Tryz.func58, Tryz.ntmps58
    go_wp2_with (first
      | (go_at_call 52; refine HN.out.mono ?_; rintro e w1 ⟨rfl, h, q⟩; (have HH := Lib.hid (HT.out _ h)); (have HQ := Lib.hid q); clear h q)
      | (go_at_call 92; refine HH.out.mono ?_; rintro e w2 ⟨v, rfl, hv, h, q⟩; obtain ⟨b1, n1, k1, hb1⟩ := h.blk; (have d1 : w2.cell? ⟨a, 1, none⟩ = some (.bool false) := hb1.cell 1); (have hcv := conv_str (P := Tryz.prog) 26 5 (by kernel_rfl) (by kernel_rfl) hv.rd rfl 9 (by kernel_rfl)); (have HV := Lib.hid h); (have HQ2 := Lib.hid q); clear hv h hb1 q))
    go_ret
    exact ⟨rfl, HV.out, HQ.out.trans HQ2.out⟩
end Go.Proofs.YtajkmblcphdnbaaGreat
