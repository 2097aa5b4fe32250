import Derived.Test.YtajkmblcphdnbaaGreatWHA
/-! The reference's Hash. -/
namespace Go.Proofs.YtajkmblcphdnbaaGreat
open Go.RowKit
set_option linter.unusedVariables false
set_option linter.unusedSimpArgs false

theorem Tl.head {b : Nat} {off c k : Nat} {l : List Nat} (hk : k ≤ l.length) : Tl (.slice (some ⟨b, off, none⟩) l.length c) l (.slice (some ⟨b, off, none⟩) k c) (l.take k) := by
  intro w h
  rcases h with ⟨⟨_, h⟩, h0⟩ | ⟨b', off2, c', h, hc, hm, hx⟩
  · subst h0
    simp only [Value.slice.injEq] at h
    obtain ⟨_, _, rfl⟩ := h
    obtain rfl : k = 0 := by simpa using hk
    exact .inl ⟨⟨_, rfl⟩, rfl⟩
  · simp only [Value.slice.injEq, Option.some.injEq, Addr.mk.injEq] at h
    obtain ⟨⟨rfl, rfl, _⟩, _, rfl⟩ := h
    exact Sl.head hc hm hx hk
/-- What is left lies where it lay in an elder world. -/
def RfO (w0 w : World) (a : Nat) : Option (List Nat) → Prop
  | some l => (∃ sl, Blk w a 47 [sl, .bool false] ∧ Sl w0 sl l) ∧ ∀ x ∈ l, x < 256
  | none => ∃ b n c, Blk w a 47 [.slice b n c, .bool true]
theorem RfO.og {w0 w w' : World} {a g : Nat} {st : Option (List Nat)} (h : RfO w0 w a st) (q : Og g w w') (hg : a ≠ g) : RfO w0 w' a st := by
  cases st with
  | none => obtain ⟨_, _, _, hb⟩ := h; exact ⟨_, _, _, hb.og q hg⟩
  | some l => obtain ⟨⟨sl, hb, hs⟩, hl⟩ := h; exact ⟨⟨sl, hb.og q hg, hs⟩, hl⟩
theorem RfO.fin {w0 w : World} {a : Nat} {x : Bool} {s : Value} {st : Option (List Nat)} (h : RfO w0 w a st) (hb0 : Blk w0 a 47 [s, .bool x]) (hs : ∃ a n c, s = .slice a n c) (q : Og a w0 w) : RfA w a st := by
  cases st with
  | none => exact h
  | some l => obtain ⟨⟨sl, hb, hs'⟩, hl⟩ := h; exact ⟨⟨sl, hb, hs'.og hb0 (no_u8r hs) q⟩, hl⟩
theorem rtake_old (a k : Nat) (st : Option (List Nat)) (w0 w : World) (hr : RfA w0 a st) (hq : Qt w0 w) : Calls Tryz.prog 92 #[.pointer (some ⟨a, 0, none⟩), .int .i64 (k : Int)] w fun e w' => ∃ v, e = .returned v ∧ Sl w0 v (rawB k st) ∧ RfO w0 w' a (nxt k st) ∧ Og a w w' := by
  cases st with
  | none =>
    obtain ⟨_, _, _, hb⟩ := hr
    exact (rtake_bad a _ w _ (hb.qt hq)).mono (by rintro e w' ⟨rfl, h, q⟩; exact ⟨_, rfl, .inl ⟨⟨_, rfl⟩, rfl⟩, ⟨_, _, _, h⟩, q⟩)
  | some l =>
    obtain ⟨⟨sl, hb, hs⟩, hl⟩ := hr
    by_cases hk : k ≤ l.length
    · have e1 : rawB (k : Int) (some l) = l.take k := by rw [rawB, if_pos ⟨by omega, by omega⟩]; rfl
      have e2 : nxt k (some l) = some (l.drop k) := if_pos hk
      rw [e1, e2]
      have hbw := hb.qt hq
      have f2 : w.frozen? ⟨a, 0, none⟩ = false := hbw.frozen 0
      have c1 : w.cell? ⟨a, 1, none⟩ = some (.bool false) := hbw.cell 1
      have HB := Lib.hid hbw
      have HL := Lib.hid hl
      have HSS := Lib.hid hs
      rcases hs with ⟨⟨a0, rfl⟩, rfl⟩ | ⟨b, off, c, rfl, hc, hm, hx⟩
      · obtain rfl : k = 0 := by simpa using hk
        have c2 : w.cell? ⟨a, 0, none⟩ = some (.slice a0 0 0) := hbw.cell 0
        clear hb hq hbw hl
        cases a0
        all_goals
         go_enter Tryz.func92, Tryz.ntmps92
         go_wp2
         go_ret
         exact ⟨_, rfl, .inl ⟨⟨_, rfl⟩, rfl⟩, ⟨⟨_, HB.out.set 0 _, .inl ⟨⟨_, rfl⟩, rfl⟩⟩, HL.out⟩, (Og.refl a w).setCell (.inl rfl) _⟩
      · have c2 : w.cell? ⟨a, 0, none⟩ = some (.slice (some ⟨b, off, none⟩) l.length c) := hbw.cell 0
        have hm1 := hm.1
        clear hb hq hbw hl hx hm
        go_enter Tryz.func92, Tryz.ntmps92
        go_wp2
        all_goals go_ret
        · subst h
          exact ⟨_, rfl, Tl.head hk _ HSS.out, ⟨⟨_, HB.out.set 0 _, by simpa using Tl.tail (c := c) (off := off) (off' := off) (b := b) hk (.inr rfl) _ HSS.out⟩, fun x hx => HL.out x (List.mem_of_mem_drop hx)⟩, (Og.refl a w).setCell (.inl rfl) _⟩
        · exact ⟨_, rfl, Tl.head hk _ HSS.out, ⟨⟨_, HB.out.set 0 _, Tl.tail hk (.inl rfl) _ HSS.out⟩, fun x hx => HL.out x (List.mem_of_mem_drop hx)⟩, (Og.refl a w).setCell (.inl rfl) _⟩
    · have e1 : rawB (k : Int) (some l) = [] := by rw [rawB, if_neg (by unfold RawC; omega)]
      have e2 : nxt k (some l) = none := if_neg hk
      rw [e1, e2]
      obtain ⟨sb, c, rfl⟩ := hs.len
      exact (rtake_no a l w _ sb c (hb.qt hq) (.inr (by omega))).mono (by
        rintro e w' ⟨rfl, h, q⟩
        exact ⟨_, rfl, .inl ⟨⟨_, rfl⟩, rfl⟩, ⟨_, _, _, h⟩, q⟩)

/-- A hash, while its bytes are put in. -/
def hfill (B : List Nat) (k : Nat) : List Nat := B.take k ++ List.replicate (32 - k) 0
theorem hfill_step (B : List Nat) (k z : Nat) (hz : B[k]? = some z) (hB : B.length ≤ 32) : (hfill B k).set k z = hfill B (k + 1) := by
  obtain ⟨hk, rfl⟩ := List.getElem?_eq_some_iff.1 hz
  unfold hfill
  rw [List.set_append_right _ _ (by rw [List.length_take]; omega), List.length_take, Nat.min_eq_left (by omega), Nat.sub_self, List.take_succ_eq_append_getElem hk, List.append_assoc]
  congr 1
  obtain ⟨m, hm⟩ : ∃ m, 32 - k = m + 1 := ⟨32 - k - 1, by omega⟩
  rw [hm, List.replicate_succ, List.set_cons_zero, show 32 - (k + 1) = m from by omega]
  rfl
theorem hfill_len (B : List Nat) (k : Nat) (hk : k ≤ B.length) (hB : B.length ≤ 32) : (hfill B k).length = 32 := by
  unfold hfill; rw [List.length_append, List.length_take, List.length_replicate]; omega
theorem hfill_full (st : Option (List Nat)) : hfill (rawB 32 st) (rawB 32 st).length = hshV st ∧ (rawB 32 st).length ≤ 32 := by
  unfold hfill
  rw [List.take_length]
  cases st with
  | none => exact ⟨rfl, Nat.zero_le _⟩
  | some l =>
    by_cases h : 32 ≤ l.length
    · have e1 : rawB 32 (some l) = l.take 32 := by rw [rawB, if_pos ⟨by omega, by omega⟩]; rfl
      have e3 : (l.take 32).length = 32 := by rw [List.length_take]; omega
      rw [e1, hshV, if_pos h, e3]; simp
    · have e1 : rawB 32 (some l) = [] := by rw [rawB, if_neg (by unfold RawC; omega)]
      rw [e1, hshV, if_neg h]; exact ⟨rfl, Nat.zero_le _⟩
set_option maxRecDepth 100000 in
set_option maxHeartbeats 1000000 in
theorem rHash_any (a : Nat) (st : Option (List Nat)) (w : World) (hr : RfA w a st) : Calls Tryz.prog 56 #[.pointer (some ⟨a, 0, none⟩)] w fun e w' => e = .returned (.agg (u8s (hshV st)).toArray) ∧ RfA w' a (nxt 32 st) ∧ Og a w w' := by
  obtain ⟨b0, n0, k0, hb0⟩ := hr.blk
  have hlt := hb0.lt
  have hq0 : Qt w ((w.alloc (.cells (u8s Z32).toArray 25)).alloc (.cells (u8s Z32).toArray 25)) := ((Qt.refl w).alloc _).alloc _
  have HT := Lib.hid (rtake_old a 32 st w _ hr hq0)
  have HA := Lib.hid ((show Blk (w.alloc (.cells (u8s Z32).toArray 25)) w.heap.size 25 (u8s Z32) from heap_alloc_new w _).alloc (.cells (u8s Z32).toArray 25))
  have HH := Lib.hid (alloc2_blk (w := w) (o := .cells (u8s Z32).toArray 25) (t := 25) (c := u8s Z32))
  obtain ⟨hf, hB32⟩ := hfill_full st
  have HF := Lib.hid hf
  have HB0 := Lib.hid hb0
  have HQ0 := Lib.hid hq0
  have HHL := Lib.hid (size_hash (hshV st) (hshV_len st))
  have HO1 := Lib.hid (u8s_all (hshV st))
  have H32 := Lib.hid (hshV_len st)
  clear hr hb0 hq0 hf
  obtain ⟨B, hB⟩ : ∃ B, B = rawB 32 st := ⟨_, rfl⟩
  have HBB := Lib.hid hB
  have HT1 : Hid (Calls Tryz.prog 92 #[.pointer (some ⟨a, 0, none⟩), .int .i64 32] ((w.alloc (.cells (u8s Z32).toArray 25)).alloc (.cells (u8s Z32).toArray 25)) fun e w' => ∃ v, e = .returned v ∧ Sl w v B ∧ RfO w w' a (nxt 32 st) ∧ Og a ((w.alloc (.cells (u8s Z32).toArray 25)).alloc (.cells (u8s Z32).toArray 25)) w') := by rw [hB]; exact HT
  have hB32' : B.length ≤ 32 := by rw [hB]; exact hB32
  clear hB HT hB32
  go_enter Tryz.func56, Tryz.ntmps56
  go_wp2_with (go_at_call 92; refine HT1.out.mono ?_; rintro e w1 ⟨v, rfl, hv, hro, hog⟩; obtain ⟨va, vc, rfl⟩ := hv.len; (have HV := Lib.hid hv); (have HRO := Lib.hid hro); (have HQ1 := Lib.hid (HQ0.out.og.trans hog)); (have HA1 := Lib.hid (HA.out.og hog (show w.heap.size ≠ a by omega))); (have HH1 := Lib.hid (HH.out.og hog (show w.heap.size + 1 ≠ a by omega))); clear hv hro hog)
  go_loopw [5] (fun i wr => ∃ k : Nat, k ≤ B.length ∧ i = .int .i64 k ∧ Blk wr (w.heap.size + 1) 25 (u8s (hfill B k)) ∧ Blk wr w.heap.size 25 (u8s Z32) ∧ RfO w wr a (nxt 32 st) ∧ Og a w wr) (fun i _ => B.length - (intOf i).toNat)
  case atStart => exact ⟨0, by omega, rfl, HH1.out, HA1.out, HRO.out, HQ1.out⟩
  case round =>
    obtain ⟨k, hk, rfl, hbh, hba, hro, hog⟩ := hrel
    have HBH := Lib.hid hbh
    have HBA := Lib.hid hba
    have HRR := Lib.hid hro
    have HOG := Lib.hid hog
    clear hbh hba hro hog
    by_cases hlt2 : k < B.length
    · obtain ⟨z, hz⟩ : ∃ z, B[k]? = some z := ⟨_, List.getElem?_eq_getElem hlt2⟩
      have HST := Lib.hid (hfill_step B k z hz hB32')
      have hv2 := HV.out.og HB0.out (no_u8r ⟨_, _, _, rfl⟩) HOG.out
      obtain ⟨b, off, rfl, cb⟩ : ∃ b off, va = some ⟨b, off, none⟩ ∧ wr.cell? ⟨b, off + k, none⟩ = some (.int .u8 (z : Int)) := by
        rcases hv2 with ⟨_, h⟩ | ⟨b, off, c, h, _, _, hx⟩
        · rw [h] at hz; cases hz
        · simp only [Value.slice.injEq] at h
          obtain ⟨rfl, _, _⟩ := h
          exact ⟨b, off, rfl, hx k z hz⟩
      have hcc : ∃ u, wr.cell? ⟨w.heap.size + 1, k, none⟩ = some u := by rw [HBH.out.cell, List.getElem?_eq_getElem (by rw [u8s_len, hfill_len B k hk hB32']; omega)]; exact ⟨_, rfl⟩
      obtain ⟨u, cc⟩ := hcc
      have fc : wr.frozen? ⟨w.heap.size + 1, k, none⟩ = false := HBH.out.frozen k
      clear hz hv2
      go_wp2
      have qs : Og (w.heap.size + 1) wr (wr.setCell ⟨w.heap.size + 1, k, none⟩ (.int .u8 (z : Int))) := (Og.refl _ _).setCell (.inl rfl) _
      have hb2 := HBH.out.set k (.int .u8 (z : Int))
      have e3 : (u8s (hfill B k)).set k (.int .u8 (z : Int)) = u8s (hfill B (k + 1)) := by rw [← HST.out]; simp [u8s]
      rw [e3] at hb2
      go_roundw
      case rel => exact ⟨k + 1, by omega, by go_num, hb2, HBA.out.og qs (by omega), HRR.out.og qs (by omega), HOG.out.setCell (.inr (Nat.le_succ _)) _⟩
      case measure => simp [intOf]; omega
    · obtain rfl : k = B.length := by omega
      have hbh := HBH.out
      have hff : hfill B B.length = hshV st := by rw [HBB.out]; exact HF.out
      rw [hff] at hbh
      have HBH2 := Lib.hid hbh
      clear HBH hbh hff
      go_wp2_with (first
        | (refine wpList_load_row rfl 25 (.tmp 3) rfl (w.heap.size + 1) rfl 25 _ (0, 0) (.array 32 5) HBH2.out (by kernel_rfl) rfl HHL.out ?_)
        | (refine wpList_store_row rfl 25 (.tmp 2) (.tmp 20) rfl w.heap.size (u8s (hshV st)).toArray rfl rfl 25 _ HBA.out HHL.out (by rw [List.size_toArray, List.size_toArray, u8s_len, u8s_len, H32.out, Z32_len]) HO1.out ?_))
      have q3 := og_setRow HOG.out (.inr (Nat.le_refl _)) (u8s (hshV st)).toArray
      have ro3 : RfO w (wr.setRow w.heap.size (u8s (hshV st)).toArray) a (nxt 32 st) := HRR.out.og (og_setRow (Og.refl w.heap.size wr) (.inl rfl) _) (by omega)
      exact bodyPost_ret (v := .agg (u8s (hshV st)).toArray) (results_cell_row rfl _ _ w.heap.size 25 _ (0, 0) (.array 32 5) rfl (blk_setRow HBA.out (u8s (hshV st))) (by kernel_rfl) rfl HHL.out) rfl ⟨rfl, ro3.fin HB0.out ⟨_, _, _, rfl⟩ q3, q3⟩
end Go.Proofs.YtajkmblcphdnbaaGreat
