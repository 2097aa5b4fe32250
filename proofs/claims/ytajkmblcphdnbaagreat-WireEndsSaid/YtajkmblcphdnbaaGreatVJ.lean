import Derived.Test.YtajkmblcphdnbaaGreatVI2
/-! What is left of a reader lies where it lay in an elder world: Hash, Left. -/
namespace Go.Proofs.YtajkmblcphdnbaaGreat
open Go.RowKit
set_option linter.unusedVariables false
set_option linter.unusedSimpArgs false

def RdO (w0 w : World) (a : Nat) : Option (List Nat) → Prop
  | some l => (∃ sl, Blk w a 69 [.bool true, .bool false, sl] ∧ Sl w0 sl l) ∧ ∀ x ∈ l, x < 256
  | none => ∃ sl, Blk w a 69 [.bool true, .bool true, sl]
theorem RdO.fin {w0 w : World} {a : Nat} {x y : Bool} {s : Value} {st : Option (List Nat)} (h : RdO w0 w a st) (hb0 : Blk w0 a 69 [.bool x, .bool y, s]) (hs : ∃ a n c, s = .slice a n c) (q : Og a w0 w) : RdA w a st := by
  cases st with
  | none => exact h
  | some l => obtain ⟨⟨sl, hb, hs'⟩, hl⟩ := h; exact ⟨⟨sl, hb, hs'.og hb0 (no_u8 hs) q⟩, hl⟩
theorem RdO.gs {w0 w w' : World} {a : Nat} {st : Option (List Nat)} {R : Nat → Prop} (h : RdO w0 w a st) (q : Gs R w w') (hr : ¬R a) : RdO w0 w' a st := by
  cases st with
  | none => obtain ⟨sl, hb⟩ := h; exact ⟨sl, q.blk hb hr⟩
  | some l => obtain ⟨⟨sl, hb, hs'⟩, hl⟩ := h; exact ⟨⟨sl, q.blk hb hr, hs'⟩, hl⟩
set_option maxRecDepth 100000 in
set_option maxHeartbeats 1000000 in
theorem Hash_old (a : Nat) (st : Option (List Nat)) (w0 w : World) (hr : RdA w0 a st) (q0 : Qt w0 w) : Calls Tryz.prog 48 #[.pointer (some ⟨a, 0, none⟩)] w fun e w' => e = .returned (.agg (u8s (hshV st)).toArray) ∧ RdO w0 w' a (nxt 32 st) ∧ Og a w w' := by
  have hmf : ∀ (fn : Fn) (first cap : Array Value) (w : World), (Instr.makeFunc fn first cap).run Tryz.prog w = .ok (.func fn first cap) w := fun _ _ _ _ => rfl
  have hcf : ∀ args w, (callFunc 87 args).run Tryz.prog w = .ok (.enter 87 args) w := fun _ _ => by kernel_rfl
  cases st with
  | none => exact (Hash_dead _ w (hr.dead.qt q0)).mono (by rintro e w' ⟨rfl, q⟩; obtain ⟨sl, hb⟩ := hr; exact ⟨rfl, ⟨sl, (hb.qt q0).qt q⟩, q.og⟩)
  | some l =>
    obtain ⟨⟨sl, hbO, hsO⟩, hl⟩ := hr
    obtain ⟨sb, sc, rfl⟩ := hsO.len
    have hb := hbO.qt q0
    have hs := hsO.qt q0
    have hlt := hb.lt
    have hq0 : Qt w ((w.alloc (.cells #[.pointer (some ⟨a, 0, none⟩)] 44)).alloc (.cells (u8s Z32).toArray 25)) := ((Qt.refl w).alloc _).alloc _
    have hob := alloc2_blk (w := w) (o := .cells #[.pointer (some ⟨a, 0, none⟩)] 44) (t := 25) (c := u8s Z32)
    obtain ⟨W, hW⟩ : ∃ W, W = (w.alloc (.cells #[.pointer (some ⟨a, 0, none⟩)] 44)).alloc (.cells (u8s Z32).toArray 25) := ⟨_, rfl⟩
    have hpc : W.cell? ⟨w.heap.size, 0, none⟩ = some (.pointer (some ⟨a, 0, none⟩)) := by rw [hW]; exact cell_al (by simp [go_sem]) (by simp) _
    rw [← hW] at hq0 hob
    have hc0 : ∀ w1, Qt W w1 → w1.cell? ⟨w.heap.size, 0, none⟩ = some (.pointer (some ⟨a, 0, none⟩)) := fun w1 q => (q.cell (p := ⟨w.heap.size, 0, none⟩) (blk_of_cell hpc)).trans hpc
    by_cases hk : 32 ≤ l.length
    · have e1 : hshV (some l) = l.take 32 := if_pos hk
      have e2 : nxt 32 (some l) = some (l.drop 32) := if_pos hk
      rw [e1, e2]
      have h32 : (l.take 32).length = 32 := by rw [List.length_take]; omega
      have HA := Lib.hid (askedH_met a sb l.length sc 87 #[.pointer (some ⟨w.heap.size, 0, none⟩)] (l.take 32) h32 W (hb.qt hq0) (fun sl' => Tl (.slice sb l.length sc) l sl' (l.drop 32)) hcf
        (fun w1 q => (hash_yes a w.heap.size _ l w1 (hc0 w1 q) (hb.qt (hq0.trans q)) (hs.qt (hq0.trans q)) hl hk)))
      have HI := Lib.hid (size_hash (l.take 32) h32)
      have HO1 := Lib.hid (u8s_all (l.take 32))
      have fin : ∀ w2, Blk w2 (w.heap.size + 1) 25 (u8s Z32) → (∃ sl', Blk w2 a 69 [.bool true, .bool false, sl'] ∧ Tl (.slice sb l.length sc) l sl' (l.drop 32)) → Og a W w2 → RdO w0 (w2.setRow (w.heap.size + 1) (u8s (l.take 32)).toArray) a (some (l.drop 32)) ∧ Og a w (w2.setRow (w.heap.size + 1) (u8s (l.take 32)).toArray) := by
        rintro w2 hb2 ⟨sl', h1, h2⟩ q
        have q2 := og_setRow (hq0.og.trans q) (.inr (Nat.le_succ w.heap.size)) (u8s (l.take 32)).toArray
        exact ⟨⟨⟨sl', blk_setRow_far h1 (by omega) _, h2 _ hsO⟩, fun x hx => hl x (List.mem_of_mem_drop hx)⟩, q2⟩
      have HF := Lib.hid fin
      have HOB := Lib.hid hob
      have H32 := Lib.hid h32
      clear fin hb hs hl hq0 hc0 hpc hob e1 e2 h32 hbO hsO q0
      subst hW
      go_enter Tryz.func48, Tryz.ntmps48
      go_wp2_with (first
        | (refine wpList_store_row rfl 25 (.tmp 2) (.tmp 5) rfl (w.heap.size + 1) (u8s (l.take 32)).toArray rfl rfl 25 _ HB1.out HI.out (by rw [List.size_toArray, List.size_toArray, u8s_len, u8s_len, H32.out, Z32_len]) HO1.out ?_)
        | (go_at_call 86; refine HA.out.mono ?_; rintro e w' ⟨rfl, h, q⟩; (have HB1 := Lib.hid (HOB.out.og q (show w.heap.size + 1 ≠ a by omega))); (have HH := Lib.hid h); (have HQ := Lib.hid q); clear h q))
      exact bodyPost_ret (v := .agg (u8s (l.take 32)).toArray) (results_cell_row rfl _ _ (w.heap.size + 1) 25 _ (0, 0) (.array 32 5) rfl (blk_setRow HB1.out (u8s (l.take 32))) (by kernel_rfl) rfl HI.out) rfl ⟨rfl, HF.out _ HB1.out HH.out HQ.out⟩
    · have e1 : hshV (some l) = Z32 := if_neg hk
      have e2 : nxt 32 (some l) = none := if_neg hk
      rw [e1, e2]
      have HA := Lib.hid (askedH_unmet a sb l.length sc 87 #[.pointer (some ⟨w.heap.size, 0, none⟩)] W (hb.qt hq0) hcf
        (fun w1 q => (hash_no a w.heap.size _ l w1 (hc0 w1 q) (hb.qt (hq0.trans q)) (hs.qt (hq0.trans q)) hl hk)))
      have HI := Lib.hid (size_hash Z32 Z32_len)
      have HO1 := Lib.hid (u8s_all Z32)
      have HOB := Lib.hid hob
      have HQ0 := Lib.hid hq0
      clear hb hs hl hq0 hc0 hpc hob e1 e2 hbO hsO q0
      subst hW
      go_enter Tryz.func48, Tryz.ntmps48
      go_wp2_with (first
        | (refine wpList_store_row rfl 25 (.tmp 2) (.tmp 5) rfl (w.heap.size + 1) (u8s Z32).toArray rfl rfl 25 _ HB1.out HI.out rfl HO1.out ?_)
        | (go_at_call 86; refine HA.out.mono ?_; rintro e w' ⟨rfl, h, q⟩; (have HB1 := Lib.hid (HOB.out.og q (show w.heap.size + 1 ≠ a by omega))); (have HH := Lib.hid h); (have HQ := Lib.hid q); clear h q))
      exact bodyPost_ret (v := .agg (u8s Z32).toArray) (results_cell_row rfl _ _ (w.heap.size + 1) 25 _ (0, 0) (.array 32 5) rfl (blk_setRow HB1.out (u8s Z32)) (by kernel_rfl) rfl HI.out) rfl ⟨rfl, ⟨_, blk_setRow_far HH.out (by omega) _⟩, og_setRow (HQ0.out.og.trans HQ.out) (.inr (Nat.le_succ _)) _⟩
theorem Left_old (a : Nat) (st : Option (List Nat)) (w0 w : World) (hrO : RdO w0 w a st) (hr : RdA w a st) (x y : Bool) (s : Value) (hb0 : Blk w0 a 69 [.bool x, .bool y, s]) (hs0 : ∃ a n c, s = .slice a n c) (q0 : Og a w0 w) : Calls Tryz.prog 50 #[.pointer (some ⟨a, 0, none⟩)] w fun e w' => e = .returned (.int .i64 ((leftV st) : Nat)) ∧ RdO w0 w' a (leftN st) ∧ Og a w w' := by
  have hmf : ∀ (fn : Fn) (first cap : Array Value) (w : World), (Instr.makeFunc fn first cap).run Tryz.prog w = .ok (.func fn first cap) w := fun _ _ _ _ => rfl
  have hcf : ∀ args w, (callFunc 90 args).run Tryz.prog w = .ok (.enter 90 args) w := fun _ _ => by kernel_rfl
  cases st with
  | none => exact (Left_dead _ w hr.dead).mono (by rintro e w' ⟨rfl, q⟩; obtain ⟨sl, hb⟩ := hr; exact ⟨rfl, ⟨sl, hb.qt q⟩, q.og⟩)
  | some l =>
    clear hr
    obtain ⟨⟨sl, hb, hsO⟩, hl⟩ := hrO
    obtain ⟨sb, sc, rfl⟩ := hsO.len
    have hs := hsO.og hb0 (no_u8 hs0) q0
    have hlt := hb.lt
    have hq0 : Qt w (w.alloc (.cells #[.pointer (some ⟨a, 0, none⟩)] 44)) := (Qt.refl w).alloc _
    have hc0 : ∀ w1, Qt (w.alloc (.cells #[.pointer (some ⟨a, 0, none⟩)] 44)) w1 → w1.cell? ⟨w.heap.size, 0, none⟩ = some (.pointer (some ⟨a, 0, none⟩)) := fun w1 q => (q.cell (p := ⟨w.heap.size, 0, none⟩) (by simp <;> omega)).trans (by simp [go_sem])
    by_cases hk : 0 ≤ l.length
    · have HA := Lib.hid (askedI_met a sb l.length sc 90 #[.pointer (some ⟨w.heap.size, 0, none⟩)] (l.length : Nat) _ (hb.qt hq0) (fun sl' => Tl (.slice sb l.length sc) l sl' l) hcf
        (fun w1 q => (left_yes a w.heap.size _ l w1 (hc0 w1 q) (hb.qt (hq0.trans q)) (hs.qt (hq0.trans q)) hl hk)))
      have fin : ∀ w2, (∃ sl', Blk w2 a 69 [.bool true, .bool false, sl'] ∧ Tl (.slice sb l.length sc) l sl' l) → Og a (w.alloc (.cells #[.pointer (some ⟨a, 0, none⟩)] 44)) w2 → leftV (some l) = (l.length : Nat) ∧ RdO w0 w2 a (leftN (some l)) ∧ Og a w w2 := fun w2 h q =>
        ⟨(if_pos hk : (if 0 ≤ l.length then l.length else 0) = l.length), by rw [leftN, if_pos hk]; obtain ⟨sl', h1, h2⟩ := h; exact ⟨⟨sl', h1, h2 _ hsO⟩, hl⟩, hq0.og.trans q⟩
      have HF := Lib.hid fin
      clear fin hb hs hl hq0 hc0 hsO hb0 hs0 q0
      go_enter Tryz.func50, Tryz.ntmps50
      go_wp2_with (go_at_call 65; refine HA.out.mono ?_; rintro e w' ⟨rfl, h, q⟩; (have HH := Lib.hid h); (have HQ := Lib.hid q); clear h q)
      go_ret
      obtain ⟨h1, h2, h3⟩ := HF.out _ HH.out HQ.out
      exact ⟨by rw [h1]; rfl, h2, h3⟩
    · have HA := Lib.hid (askedI_unmet a sb l.length sc 90 #[.pointer (some ⟨w.heap.size, 0, none⟩)] _ (hb.qt hq0) hcf
        (fun w1 q => (left_no a w.heap.size _ l w1 (hc0 w1 q) (hb.qt (hq0.trans q)) (hs.qt (hq0.trans q)) hl hk)))
      have fin : ∀ w2, Blk w2 a 69 [.bool true, .bool true, .slice sb l.length sc] → Og a (w.alloc (.cells #[.pointer (some ⟨a, 0, none⟩)] 44)) w2 → leftV (some l) = leftV none ∧ RdO w0 w2 a (leftN (some l)) ∧ Og a w w2 := fun w2 h q =>
        ⟨absurd (Nat.zero_le _) hk, by rw [leftN, if_neg hk]; exact ⟨_, h⟩, hq0.og.trans q⟩
      have HF := Lib.hid fin
      clear fin hb hs hl hq0 hc0 hsO hb0 hs0 q0
      go_enter Tryz.func50, Tryz.ntmps50
      go_wp2_with (go_at_call 65; refine HA.out.mono ?_; rintro e w' ⟨rfl, h, q⟩; (have HH := Lib.hid h); (have HQ := Lib.hid q); clear h q)
      go_ret
      obtain ⟨h1, h2, h3⟩ := HF.out _ HH.out HQ.out
      exact ⟨by rw [h1]; rfl, h2, h3⟩
set_option maxRecDepth 100000 in
set_option maxHeartbeats 1000000 in
theorem rHash_old (a : Nat) (st : Option (List Nat)) (w0 w : World) (hr : RfA w0 a st) (q0 : Qt w0 w) : Calls Tryz.prog 56 #[.pointer (some ⟨a, 0, none⟩)] w fun e w' => e = .returned (.agg (u8s (hshV st)).toArray) ∧ RfO w0 w' a (nxt 32 st) ∧ Og a w w' := by
  obtain ⟨b0, n0, k0, hb0⟩ := hr.blk
  have hlt := (hb0.qt q0).lt
  have hq0 : Qt w ((w.alloc (.cells (u8s Z32).toArray 25)).alloc (.cells (u8s Z32).toArray 25)) := ((Qt.refl w).alloc _).alloc _
  have HT := Lib.hid (rtake_old a 32 st w0 _ hr (q0.trans hq0))
  have HA := Lib.hid ((show Blk (w.alloc (.cells (u8s Z32).toArray 25)) w.heap.size 25 (u8s Z32) from heap_alloc_new w _).alloc (.cells (u8s Z32).toArray 25))
  have HH := Lib.hid (alloc2_blk (w := w) (o := .cells (u8s Z32).toArray 25) (t := 25) (c := u8s Z32))
  obtain ⟨hf, hB32⟩ := hfill_full st
  have HF := Lib.hid hf
  have HB0 := Lib.hid hb0
  have HQ0 := Lib.hid hq0
  have HQZ := Lib.hid q0
  have HHL := Lib.hid (size_hash (hshV st) (hshV_len st))
  have HO1 := Lib.hid (u8s_all (hshV st))
  have H32 := Lib.hid (hshV_len st)
  clear hr hb0 hq0 hf q0
  obtain ⟨B, hB⟩ : ∃ B, B = rawB 32 st := ⟨_, rfl⟩
  have HBB := Lib.hid hB
  have HT1 : Hid (Calls Tryz.prog 92 #[.pointer (some ⟨a, 0, none⟩), .int .i64 32] ((w.alloc (.cells (u8s Z32).toArray 25)).alloc (.cells (u8s Z32).toArray 25)) fun e w' => ∃ v, e = .returned v ∧ Sl w0 v B ∧ RfO w0 w' a (nxt 32 st) ∧ Og a ((w.alloc (.cells (u8s Z32).toArray 25)).alloc (.cells (u8s Z32).toArray 25)) w') := by rw [hB]; exact HT
  have hB32' : B.length ≤ 32 := by rw [hB]; exact hB32
  clear hB HT hB32
  go_enter Tryz.func56, Tryz.ntmps56
  go_wp2_with (go_at_call 92; refine HT1.out.mono ?_; rintro e w1 ⟨v, rfl, hv, hro, hog⟩; obtain ⟨va, vc, rfl⟩ := hv.len; (have HV := Lib.hid hv); (have HRO := Lib.hid hro); (have HQ1 := Lib.hid (HQ0.out.og.trans hog)); (have HA1 := Lib.hid (HA.out.og hog (show w.heap.size ≠ a by omega))); (have HH1 := Lib.hid (HH.out.og hog (show w.heap.size + 1 ≠ a by omega))); clear hv hro hog)
  go_loopw [5] (fun i wr => ∃ k : Nat, k ≤ B.length ∧ i = .int .i64 k ∧ Blk wr (w.heap.size + 1) 25 (u8s (hfill B k)) ∧ Blk wr w.heap.size 25 (u8s Z32) ∧ RfO w0 wr a (nxt 32 st) ∧ Og a w wr) (fun i _ => B.length - (intOf i).toNat)
  case atStart => exact ⟨0, by omega, rfl, HH1.out, HA1.out, HRO.out, HQ1.out⟩
  case round =>
    obtain ⟨k, hk, rfl, hbh, hba, hro, hog⟩ := hrel
    have HBH := Lib.hid hbh
    have HBA := Lib.hid hba
    have HRR := Lib.hid hro
    have HOG := Lib.hid hog
    clear hbh hba hro hog
    by_cases hlt2 : k < B.length
    · obtain ⟨z, hz⟩ : ∃ z, B[k]? = some z := ⟨_, List.getElem?_eq_getElem hlt2⟩
      have HST := Lib.hid (hfill_step B k z hz hB32')
      have hv2 := HV.out.og HB0.out (no_u8r ⟨_, _, _, rfl⟩) (HQZ.out.og.trans HOG.out)
      obtain ⟨b, off, rfl, cb⟩ : ∃ b off, va = some ⟨b, off, none⟩ ∧ wr.cell? ⟨b, off + k, none⟩ = some (.int .u8 (z : Int)) := by
        rcases hv2 with ⟨_, h⟩ | ⟨b, off, c, h, _, _, hx⟩
        · rw [h] at hz; cases hz
        · simp only [Value.slice.injEq] at h
          obtain ⟨rfl, _, _⟩ := h
          exact ⟨b, off, rfl, hx k z hz⟩
      have hcc : ∃ u, wr.cell? ⟨w.heap.size + 1, k, none⟩ = some u := by rw [HBH.out.cell, List.getElem?_eq_getElem (by rw [u8s_len, hfill_len B k hk hB32']; omega)]; exact ⟨_, rfl⟩
      obtain ⟨u, cc⟩ := hcc
      have fc : wr.frozen? ⟨w.heap.size + 1, k, none⟩ = false := HBH.out.frozen k
      clear hz hv2
      go_wp2
      have qs : Og (w.heap.size + 1) wr (wr.setCell ⟨w.heap.size + 1, k, none⟩ (.int .u8 (z : Int))) := (Og.refl _ _).setCell (.inl rfl) _
      have hb2 := HBH.out.set k (.int .u8 (z : Int))
      have e3 : (u8s (hfill B k)).set k (.int .u8 (z : Int)) = u8s (hfill B (k + 1)) := by rw [← HST.out]; simp [u8s]
      rw [e3] at hb2
      go_roundw
      case rel => exact ⟨k + 1, by omega, by go_num, hb2, HBA.out.og qs (by omega), HRR.out.og qs (by omega), HOG.out.setCell (.inr (Nat.le_succ _)) _⟩
      case measure => simp [intOf]; omega
    · obtain rfl : k = B.length := by omega
      have hbh := HBH.out
      have hff : hfill B B.length = hshV st := by rw [HBB.out]; exact HF.out
      rw [hff] at hbh
      have HBH2 := Lib.hid hbh
      clear HBH hbh hff
      go_wp2_with (first
        | (refine wpList_load_row rfl 25 (.tmp 3) rfl (w.heap.size + 1) rfl 25 _ (0, 0) (.array 32 5) HBH2.out (by kernel_rfl) rfl HHL.out ?_)
        | (refine wpList_store_row rfl 25 (.tmp 2) (.tmp 20) rfl w.heap.size (u8s (hshV st)).toArray rfl rfl 25 _ HBA.out HHL.out (by rw [List.size_toArray, List.size_toArray, u8s_len, u8s_len, H32.out, Z32_len]) HO1.out ?_))
      have q3 := og_setRow HOG.out (.inr (Nat.le_refl _)) (u8s (hshV st)).toArray
      have ro3 : RfO w0 (wr.setRow w.heap.size (u8s (hshV st)).toArray) a (nxt 32 st) := HRR.out.og (og_setRow (Og.refl w.heap.size wr) (.inl rfl) _) (by omega)
      exact bodyPost_ret (v := .agg (u8s (hshV st)).toArray) (results_cell_row rfl _ _ w.heap.size 25 _ (0, 0) (.array 32 5) rfl (blk_setRow HBA.out (u8s (hshV st))) (by kernel_rfl) rfl HHL.out) rfl ⟨rfl, ro3, q3⟩
end Go.Proofs.YtajkmblcphdnbaaGreat
