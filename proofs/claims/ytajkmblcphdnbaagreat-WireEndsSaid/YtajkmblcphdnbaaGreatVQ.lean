import Derived.Test.YtajkmblcphdnbaaGreatVP
/-! awake. -/
namespace Go.Proofs.YtajkmblcphdnbaaGreat
open Go.RowKit
set_option linter.unusedVariables false
set_option linter.unusedSimpArgs false

/-- A writer of the call's own. -/
def WrB (W w : World) (a : Nat) (st : Option (List Nat)) : Prop := ∃ S, WrA S w a st ∧ (∀ k, S k → W.heap.size ≤ k) ∧ Qt W w
theorem WrB.mk {W w w' : World} {S : Nat → Prop} {a : Nat} {st : Option (List Nat)} (h : WrA (Fr S w w') w' a st) (hs : ∀ k, S k → W.heap.size ≤ k) (q : Qt W w) (g : Gs S w w') : WrB W w' a st :=
  ⟨_, h, fun k hk => by
    rcases hk with hk | ⟨hk, _⟩
    · exact hs k hk
    · exact Nat.le_trans q.size hk, Gs.below q g hs⟩
theorem RdA.og {w w' : World} {r s : Nat} {st : Option (List Nat)} {l : List Nat} (h : RdA w s st) (hr : RdA w r (some l)) (hne : s ≠ r) (q : Og r w w') : RdA w' s st := by
  obtain ⟨⟨sl, hb, hs⟩, _⟩ := hr
  cases st with
  | none => obtain ⟨s2, h2⟩ := h; exact ⟨s2, h2.og q hne⟩
  | some l2 => obtain ⟨⟨s2, h2, h3⟩, h4⟩ := h; exact ⟨⟨s2, h2.og q hne, h3.og hb (no_u8 hs.slice) q⟩, h4⟩
theorem Og.below {W w w' : World} {a : Nat} (hb : Qt W w) (h : Og a w w') (ha : W.heap.size ≤ a) : Qt W w' :=
  ⟨h.os.trans hb.os, h.tape.trans hb.tape, h.output.trans hb.output, Nat.le_trans hb.size h.size, fun k hk => (h.block k (Nat.lt_of_lt_of_le hk hb.size) (fun e => by cases e; omega)).trans (hb.block k hk)⟩
def aw : List Nat := [1, 2, 0, 2, 97, 98, 1]
set_option maxRecDepth 100000 in
set_option maxHeartbeats 2000000 in
theorem awake_any (w : World) : Calls Tryz.prog 6 #[] w fun e w' => e = .returned (.bool true) ∧ Qt w w' := by
  have e1 : wBel 2 258 (some []) = some [1, 2] := by decide
  have e2 : (wBel 2 (([97, 98] : List Nat).length : Int) (some [1, 2])).map (· ++ [97, 98]) = some [1, 2, 0, 2, 97, 98] := by decide
  have e3 : wBel 1 (if (true : Bool) then 1 else 0) (some [1, 2, 0, 2, 97, 98]) = some aw := by decide
  have HA := Lib.hid (fun a w (h : WrB w w a (some [])) => h)
  have H1 := Lib.hid (fun W a w (h : WrB W w a (some [])) => (show Calls Tryz.prog 16 #[.pointer (some ⟨a, 0, none⟩), .int .i64 258] w fun e w' => e = .returned (.tuple #[]) ∧ WrB W w' a (some [1, 2]) by
    obtain ⟨S, h1, h2, h3⟩ := h
    exact (wU16_any S a 258 (some []) w h1 (by decide) (by decide) (by decide)).mono (by rintro e w' ⟨rfl, hw, hg⟩; rw [e1] at hw; exact ⟨rfl, WrB.mk hw h2 h3 hg⟩)))
  have H2 := Lib.hid (fun W a w (h : WrB W w a (some [1, 2])) => (show Calls Tryz.prog 17 #[.pointer (some ⟨a, 0, none⟩), .string ⟨#[97, 98]⟩] w fun e w' => e = .returned (.tuple #[]) ∧ WrB W w' a (some [1, 2, 0, 2, 97, 98]) by
    obtain ⟨S, h1, h2, h3⟩ := h
    exact (wText_any S a [97, 98] (some [1, 2]) w h1 (by decide) (by decide) (by decide)).mono (by rintro e w' ⟨rfl, hw, hg⟩; rw [e2] at hw; exact ⟨rfl, WrB.mk hw h2 h3 hg⟩)))
  have H3 := Lib.hid (fun W a w (h : WrB W w a (some [1, 2, 0, 2, 97, 98])) => (show Calls Tryz.prog 18 #[.pointer (some ⟨a, 0, none⟩), .bool true] w fun e w' => e = .returned (.tuple #[]) ∧ WrB W w' a (some aw) by
    obtain ⟨S, h1, h2, h3⟩ := h
    exact (wFlag_any S a true (some [1, 2, 0, 2, 97, 98]) w h1 (by decide)).mono (by rintro e w' ⟨rfl, hw, hg⟩; rw [e3] at hw; exact ⟨rfl, WrB.mk hw h2 h3 hg⟩)))
  have H4 := Lib.hid (fun W a w (h : WrB W w a (some aw)) => (show Calls Tryz.prog 11 #[.pointer (some ⟨a, 0, none⟩)] w fun e w' => ∃ v, e = .returned (.tuple #[v, .int .i64 0]) ∧ Sl w' v aw ∧ Qt W w' by
    obtain ⟨S, h1, h2, h3⟩ := h
    exact (wBytes_any S a (some aw) w h1 (by decide)).mono (by rintro e w' ⟨v, rfl, ho, hq⟩; exact ⟨v, rfl, OQ.sl ho (by decide), h3.trans hq⟩)))
  clear e1 e2 e3 HA
  go_enter Tryz.func6, Tryz.ntmps6
  go_wp2_with (first
    | (go_at_call 8; refine (newWriter_any _).mono ?_; rintro e w1 ⟨rfl, hw, hq, _⟩; (have HW := Lib.hid (⟨_, hw, (fun k hk => by rw [hk]; exact Nat.le_refl _), hq⟩ : WrB w w1 w.heap.size (some []))); clear hw hq)
    | (go_at_call 16; refine (H1.out _ _ _ HW.out).mono ?_; rintro e w2 ⟨rfl, hw⟩; (have HW2 := Lib.hid hw); clear hw)
    | (go_at_call 17; refine (H2.out _ _ _ HW2.out).mono ?_; rintro e w3 ⟨rfl, hw⟩; (have HW3 := Lib.hid hw); clear hw)
    | (go_at_call 18; refine (H3.out _ _ _ HW3.out).mono ?_; rintro e w4 ⟨rfl, hw⟩; (have HW4 := Lib.hid hw); clear hw)
    | (go_at_call 11; refine (H4.out _ _ _ HW4.out).mono ?_; rintro e w5 ⟨v, rfl, hs, hq⟩; obtain ⟨va, vc, rfl⟩ := hs.len; (have HS := Lib.hid hs); (have HQ5 := Lib.hid hq); clear hs hq))
  have h8 : ∀ x ∈ aw, x < 256 := by decide
  have HS8 := Lib.hid h8
  clear h8
  refine (NewReader_any _ aw _ HS.out HS8.out).mono ?_
  rintro e w6 ⟨r, rfl, hr0, hr, hq6⟩
  have hs6 := HS.out.qt hq6
  have HS6 := Lib.hid hs6
  have HR6 := Lib.hid hr
  have HQ6 := Lib.hid (HQ5.out.trans hq6)
  have HR0 := Lib.hid (Nat.le_trans HQ5.out.size hr0)
  clear hs6 hr hq6 hr0
  go_wp2_with fail
  refine (NewReader_any _ aw _ HS6.out HS8.out).mono ?_
  rintro e w7 ⟨s, rfl, hs0, hs, hq7⟩
  have hne : s ≠ r := by have := HR6.out.lt; omega
  have hcv := conv_str (P := Tryz.prog) 26 5 (by kernel_rfl) (by kernel_rfl) (HS6.out.qt hq7).rd rfl 9 (by kernel_rfl)
  have hst : str aw = ⟨#[1, 2, 0, 2, 97, 98, 1]⟩ := by decide
  rw [hst] at hcv
  have HR7 := Lib.hid (HR6.out.qt hq7)
  have HS7 := Lib.hid hs
  have HQ7 := Lib.hid (HQ6.out.trans hq7)
  have HS0 := Lib.hid (Nat.le_trans HQ6.out.size hs0)
  have HNE := Lib.hid hne
  have k1 : cntV 258 (some aw) = 258 ∧ cntN 258 (some aw) = some [0, 2, 97, 98, 1] := by decide
  have k2 : textV 2 (some [0, 2, 97, 98, 1]) = ⟨#[97, 98]⟩ ∧ textN 2 (some [0, 2, 97, 98, 1]) = some [1] := by decide
  have k3 : flagV (some [1]) = true ∧ flagN (some [1]) = some [] := by decide
  have k4 : cntV 257 (some aw) = 0 ∧ cntN 257 (some aw) = none := by decide
  have C1 := Lib.hid (Count_any r 258 (some aw) w7 HR7.out)
  rw [k1.1, k1.2] at C1
  have C2 := Lib.hid (fun w h => Text_any r 2 (some [0, 2, 97, 98, 1]) w h)
  rw [k2.1, k2.2] at C2
  have C3 := Lib.hid (fun w h => Flag_any r (some [1]) w h)
  rw [k3.1, k3.2] at C3
  have C4 := Lib.hid (fun w h => Count_any s 257 (some aw) w h)
  rw [k4.1, k4.2] at C4
  clear hs hq7 hs0 hne hst k1 k2 k3 k4
  go_wp2_with fail
  refine C1.out.mono ?_
  rintro e w8 ⟨rfl, hr, q⟩
  have HR8 := Lib.hid hr
  have HS8' := Lib.hid (HS7.out.og HR7.out HNE.out q)
  have HQ8 := Lib.hid (Og.below HQ7.out q HR0.out)
  clear hr q
  go_wp2_with fail
  refine (C2.out _ HR8.out).mono ?_
  rintro e w9 ⟨rfl, hr, q⟩
  have HR9 := Lib.hid hr
  have HS9 := Lib.hid (HS8'.out.og HR8.out HNE.out q)
  have HQ9 := Lib.hid (Og.below HQ8.out q HR0.out)
  clear hr q
  go_wp2_with fail
  refine (C3.out _ HR9.out).mono ?_
  rintro e w10 ⟨rfl, hr, q⟩
  have HR10 := Lib.hid hr
  have HS10 := Lib.hid (HS9.out.og HR9.out HNE.out q)
  have HQ10 := Lib.hid (Og.below HQ9.out q HR0.out)
  clear hr q
  go_wp2_with fail
  refine (End_any r (some []) _ HR10.out).mono ?_
  rintro e w11 ⟨rfl, rfl⟩
  go_wp2_with fail
  refine (C4.out _ HS10.out).mono ?_
  rintro e w12 ⟨rfl, hr, q⟩
  have HS12 := Lib.hid hr
  have HQ12 := Lib.hid (Og.below HQ10.out q HS0.out)
  clear hr q
  go_wp2_with fail
  refine (Err_any s none _ HS12.out).mono ?_
  rintro e w13 ⟨rfl, rfl⟩
  go_wp2
  go_ret
  exact ⟨rfl, HQ12.out⟩
end Go.Proofs.YtajkmblcphdnbaaGreat
