import Derived.Test.YtajkmblcphdnbaaGreatWEH
import Derived.Test.YtajkmblcphdnbaaGreatWY
/-! Hash. -/
namespace Go.Proofs.YtajkmblcphdnbaaGreat
open Go.RowKit
set_option linter.unusedVariables false
set_option linter.unusedSimpArgs false

section
variable (a p : Nat) (sl : Value) (l : List Nat) (w : World)
set_option maxRecDepth 100000 in
theorem hash_yes (hp : w.cell? ⟨p, 0, none⟩ = some (.pointer (some ⟨a, 0, none⟩))) (hb : Blk w a 69 [.bool true, .bool false, sl]) (hs : Sl w sl l) (_hl : ∀ z ∈ l, z < 256) (hk : 32 ≤ l.length) :
    Calls Tryz.prog 87 #[.pointer (some ⟨p, 0, none⟩)] w fun e w' => e = .returned (.agg (u8s (l.take 32)).toArray) ∧ (∃ sl', Blk w' a 69 [.bool true, .bool false, sl'] ∧ Tl sl l sl' (l.drop 32)) ∧ Og a w w' := by
  have h32 : (l.take 32).length = 32 := by rw [List.length_take]; omega
  have HI := Lib.hid (size_hash (l.take 32) h32)
  have HO1 := Lib.hid (u8s_all (l.take 32))
  have hq0 : Qt w (w.alloc (.cells (u8s Z32).toArray 25)) := (Qt.refl w).alloc _
  have HT := Lib.hid (take_yes a (.bool true) (.bool false) sl l _ 32 (hb.qt hq0) (hs.qt hq0) hk)
  have HN := Lib.hid (no_u8 (x := true) (y := false) (s := sl) hs.slice)
  have hp0 : ∀ o, (w.alloc o).cell? ⟨p, 0, none⟩ = some (.pointer (some ⟨a, 0, none⟩)) := fun o => cell_al hp (blk_of_cell hp) o
  have hb0 : Blk (w.alloc (.cells (u8s Z32).toArray 25)) w.heap.size 25 (u8s Z32) := heap_alloc_new w _
  have HB0 := Lib.hid hb0
  have HQ0 := Lib.hid hq0
  have HB := Lib.hid (hb.qt hq0)
  have HP := Lib.hid hp
  have hlt := hb.lt
  have H32 := Lib.hid h32
  have HA : ∀ b off c w, (Instr.arrayAt 25 (.slice (some ⟨b, off, none⟩) 32 c)).run Tryz.prog w = .ok (.pointer (some ⟨b, off, none⟩)) w := fun b off c w => by kernel_rfl
  clear hb hs hq0 hb0 h32 hp
  go_enter Tryz.func87, Tryz.ntmps87
  go_wp2_with (first
    | (refine wpList_load_mid rfl 25 (.tmp 4) rfl b off rfl (u8s (l.take 32)) (.array 32 5) HX.out (by kernel_rfl) rfl (by rw [u8s_len, H32.out]; kernel_rfl) ?_)
    | (refine wpList_store_row rfl 25 (.tmp 1) (.tmp 5) rfl w.heap.size (u8s (l.take 32)).toArray rfl rfl 25 _ HBO.out HI.out (by rw [List.size_toArray, List.size_toArray, u8s_len, u8s_len, H32.out, Z32_len]) HO1.out ?_)
    | (go_at_call 71; refine HT.out.mono ?_; rintro e w1 ⟨v, rfl, hv, hb1, hog⟩; (have hv1 := hv.og HB.out HN.out hog); obtain ⟨b, off, c, rfl, hx⟩ : ∃ b off c, v = .slice (some ⟨b, off, none⟩) 32 c ∧ w1.rangeAt b off (u8s (l.take 32)) := (by
      rcases hv1 with ⟨_, h0⟩ | ⟨b, off, c, rfl, _, _, hx⟩
      · have := H32.out; rw [h0] at this; cases this
      · refine ⟨b, off, c, by rw [H32.out], fun j u hu => ?_⟩
        rw [u8s, List.getElem?_map] at hu
        cases hl : (l.take 32)[j]? with
        | none => rw [hl] at hu; cases hu
        | some y => rw [hl] at hu; cases hu; exact hx j y hl); (have hbo := HB0.out.og hog (show w.heap.size ≠ a by omega)); (have HX := Lib.hid hx); (have HB1 := Lib.hid hb1); (have HOG := Lib.hid hog); (have HBO := Lib.hid hbo); clear hv hv1 hb1 hog hx hbo))
  obtain ⟨sl', hb1, ht⟩ := HB1.out
  exact bodyPost_ret (v := .agg (u8s (l.take 32)).toArray) (results_cell_row rfl _ _ w.heap.size 25 _ (0, 0) (.array 32 5) rfl (blk_setRow HBO.out (u8s (l.take 32))) (by kernel_rfl) rfl HI.out) rfl ⟨rfl, ⟨sl', blk_setRow_far hb1 (by omega) _, ht⟩, og_setRow (HQ0.out.og.trans HOG.out) (.inr (Nat.le_refl _)) _⟩
theorem hash_no (hp : w.cell? ⟨p, 0, none⟩ = some (.pointer (some ⟨a, 0, none⟩))) (hb : Blk w a 69 [.bool true, .bool false, sl]) (hs : Sl w sl l) (_hl : ∀ z ∈ l, z < 256) (hk : ¬32 ≤ l.length) :
    Calls Tryz.prog 87 #[.pointer (some ⟨p, 0, none⟩)] w fun e w' => e = .panicked [unmet] ∧ (∃ sl', Blk w' a 69 [.bool true, .bool false, sl']) ∧ Og a w w' := by
  have hq0 : Qt w (w.alloc (.cells (u8s Z32).toArray 25)) := (Qt.refl w).alloc _
  obtain ⟨sb, sc, rfl⟩ := hs.len
  have HT := Lib.hid (take_no a (.bool true) (.bool false) l _ 32 sb sc (hb.qt hq0) (.inr (by omega)))
  have hp0 : ∀ o, (w.alloc o).cell? ⟨p, 0, none⟩ = some (.pointer (some ⟨a, 0, none⟩)) := fun o => cell_al hp (blk_of_cell hp) o
  have HQ0 := Lib.hid hq0
  have HB := Lib.hid (hb.qt hq0)
  clear hb hs hq0 hp
  go_enter Tryz.func87, Tryz.ntmps87
  go_wp2_with (go_at_call 71; refine HT.out.mono ?_; rintro e w1 ⟨rfl, rfl⟩)
  exact ⟨rfl, rfl, ⟨_, HB.out⟩, HQ0.out.og⟩
end
/-- Hash of st: what is told, what is left. -/
def hshV : Option (List Nat) → List Nat
  | some l => if 32 ≤ l.length then l.take 32 else Z32
  | none => Z32
theorem hshV_len (st : Option (List Nat)) : (hshV st).length = 32 := by
  cases st with
  | none => exact Z32_len
  | some l =>
    rw [hshV]
    by_cases h : 32 ≤ l.length
    · rw [if_pos h, List.length_take]; omega
    · rw [if_neg h]; exact Z32_len
set_option maxRecDepth 100000 in
theorem Hash_dead (p : Value) (w : World) (hd : Dead w p) : Calls Tryz.prog 48 #[p] w fun e w' => e = .returned (.agg (u8s Z32).toArray) ∧ Qt w w' := by
  have HI := Lib.hid (size_hash Z32 Z32_len)
  have HO1 := Lib.hid (u8s_all Z32)
  have hmf : ∀ (fn : Fn) (first cap : Array Value) (w : World), (Instr.makeFunc fn first cap).run Tryz.prog w = .ok (.func fn first cap) w := fun _ _ _ _ => rfl
  have hq0 : Qt w ((w.alloc (.cells #[p] 44)).alloc (.cells (u8s Z32).toArray 25)) := ((Qt.refl w).alloc _).alloc _
  have HD := Lib.hid (askedH_dead p (.func (.func 87) #[] #[.pointer (some ⟨w.heap.size, 0, none⟩)]) _ (hd.qt hq0))
  have HB := Lib.hid (alloc2_blk (w := w) (o := .cells #[p] 44) (t := 25) (c := u8s Z32))
  have HQ0 := Lib.hid hq0
  obtain ⟨x, rfl⟩ : ∃ x, p = .pointer x := by rcases hd with rfl | ⟨a, _, _, _, rfl, _⟩ <;> exact ⟨_, rfl⟩
  clear hd hq0
  go_enter Tryz.func48, Tryz.ntmps48
  go_wp2_with (first
    | (refine wpList_store_row rfl 25 (.tmp 2) (.tmp 5) rfl (w.heap.size + 1) (u8s Z32).toArray rfl rfl 25 _ HB1.out HI.out rfl HO1.out ?_)
    | (go_at_call 86; refine HD.out.mono ?_; rintro e w' ⟨rfl, q⟩; (have HB1 := Lib.hid (HB.out.qt q)); (have HQ := Lib.hid q); clear q))
  exact bodyPost_ret (v := .agg (u8s Z32).toArray) (results_cell_row rfl _ _ (w.heap.size + 1) 25 _ (0, 0) (.array 32 5) rfl (blk_setRow HB1.out (u8s Z32)) (by kernel_rfl) rfl HI.out) rfl ⟨rfl, qt_setRow (HQ0.out.trans HQ.out) (Nat.le_succ _) _⟩
set_option maxRecDepth 100000 in
set_option maxHeartbeats 1000000 in
theorem Hash_any (a : Nat) (st : Option (List Nat)) (w : World) (hr : RdA w a st) : Calls Tryz.prog 48 #[.pointer (some ⟨a, 0, none⟩)] w fun e w' => e = .returned (.agg (u8s (hshV st)).toArray) ∧ RdA w' a (nxt 32 st) ∧ Og a w w' := by
  have hmf : ∀ (fn : Fn) (first cap : Array Value) (w : World), (Instr.makeFunc fn first cap).run Tryz.prog w = .ok (.func fn first cap) w := fun _ _ _ _ => rfl
  have hcf : ∀ args w, (callFunc 87 args).run Tryz.prog w = .ok (.enter 87 args) w := fun _ _ => by kernel_rfl
  cases st with
  | none => exact (Hash_dead _ w hr.dead).mono (by rintro e w' ⟨rfl, q⟩; obtain ⟨sl, hb⟩ := hr; exact ⟨rfl, ⟨sl, hb.qt q⟩, q.og⟩)
  | some l =>
    have hr0 : RdS w a l := hr
    obtain ⟨⟨sl, hb, hs⟩, hl⟩ := hr
    obtain ⟨sb, sc, rfl⟩ := hs.len
    have hlt := hb.lt
    have hq0 : Qt w ((w.alloc (.cells #[.pointer (some ⟨a, 0, none⟩)] 44)).alloc (.cells (u8s Z32).toArray 25)) := ((Qt.refl w).alloc _).alloc _
    have hob := alloc2_blk (w := w) (o := .cells #[.pointer (some ⟨a, 0, none⟩)] 44) (t := 25) (c := u8s Z32)
    obtain ⟨W, hW⟩ : ∃ W, W = (w.alloc (.cells #[.pointer (some ⟨a, 0, none⟩)] 44)).alloc (.cells (u8s Z32).toArray 25) := ⟨_, rfl⟩
    have hpc : W.cell? ⟨w.heap.size, 0, none⟩ = some (.pointer (some ⟨a, 0, none⟩)) := by rw [hW]; exact cell_al (by simp [go_sem]) (by simp) _
    rw [← hW] at hq0 hob
    have hc0 : ∀ w1, Qt W w1 → w1.cell? ⟨w.heap.size, 0, none⟩ = some (.pointer (some ⟨a, 0, none⟩)) := fun w1 q => (q.cell (p := ⟨w.heap.size, 0, none⟩) (blk_of_cell hpc)).trans hpc
    by_cases hk : 32 ≤ l.length
    · have e1 : hshV (some l) = l.take 32 := if_pos hk
      have e2 : nxt 32 (some l) = some (l.drop 32) := if_pos hk
      rw [e1, e2]
      have h32 : (l.take 32).length = 32 := by rw [List.length_take]; omega
      have HA := Lib.hid (askedH_met a sb l.length sc 87 #[.pointer (some ⟨w.heap.size, 0, none⟩)] (l.take 32) h32 W (hb.qt hq0) (fun sl' => Tl (.slice sb l.length sc) l sl' (l.drop 32)) hcf
        (fun w1 q => (hash_yes a w.heap.size _ l w1 (hc0 w1 q) (hb.qt (hq0.trans q)) (hs.qt (hq0.trans q)) hl hk)))
      have HI := Lib.hid (size_hash (l.take 32) h32)
      have HO1 := Lib.hid (u8s_all (l.take 32))
      have fin : ∀ w2, Blk w2 (w.heap.size + 1) 25 (u8s Z32) → (∃ sl', Blk w2 a 69 [.bool true, .bool false, sl'] ∧ Tl (.slice sb l.length sc) l sl' (l.drop 32)) → Og a W w2 → RdA (w2.setRow (w.heap.size + 1) (u8s (l.take 32)).toArray) a (some (l.drop 32)) ∧ Og a w (w2.setRow (w.heap.size + 1) (u8s (l.take 32)).toArray) := by
        rintro w2 hb2 ⟨sl', h1, h2⟩ q
        have q2 := og_setRow (hq0.og.trans q) (.inr (Nat.le_succ w.heap.size)) (u8s (l.take 32)).toArray
        exact ⟨hr0.behind (fun x hx => List.mem_of_mem_drop hx) _ hb hs ⟨sl', blk_setRow_far h1 (by omega) _, h2⟩ q2, q2⟩
      have HF := Lib.hid fin
      have HOB := Lib.hid hob
      have H32 := Lib.hid h32
      clear fin hr0 hb hs hl hq0 hc0 hpc hob e1 e2 h32
      subst hW
      go_enter Tryz.func48, Tryz.ntmps48
      go_wp2_with (first
        | (refine wpList_store_row rfl 25 (.tmp 2) (.tmp 5) rfl (w.heap.size + 1) (u8s (l.take 32)).toArray rfl rfl 25 _ HB1.out HI.out (by rw [List.size_toArray, List.size_toArray, u8s_len, u8s_len, H32.out, Z32_len]) HO1.out ?_)
        | (go_at_call 86; refine HA.out.mono ?_; rintro e w' ⟨rfl, h, q⟩; (have HB1 := Lib.hid (HOB.out.og q (show w.heap.size + 1 ≠ a by omega))); (have HH := Lib.hid h); (have HQ := Lib.hid q); clear h q))
      exact bodyPost_ret (v := .agg (u8s (l.take 32)).toArray) (results_cell_row rfl _ _ (w.heap.size + 1) 25 _ (0, 0) (.array 32 5) rfl (blk_setRow HB1.out (u8s (l.take 32))) (by kernel_rfl) rfl HI.out) rfl ⟨rfl, HF.out _ HB1.out HH.out HQ.out⟩
    · have e1 : hshV (some l) = Z32 := if_neg hk
      have e2 : nxt 32 (some l) = none := if_neg hk
      rw [e1, e2]
      have HA := Lib.hid (askedH_unmet a sb l.length sc 87 #[.pointer (some ⟨w.heap.size, 0, none⟩)] W (hb.qt hq0) hcf
        (fun w1 q => (hash_no a w.heap.size _ l w1 (hc0 w1 q) (hb.qt (hq0.trans q)) (hs.qt (hq0.trans q)) hl hk)))
      have HI := Lib.hid (size_hash Z32 Z32_len)
      have HO1 := Lib.hid (u8s_all Z32)
      have HOB := Lib.hid hob
      have HQ0 := Lib.hid hq0
      clear hr0 hb hs hl hq0 hc0 hpc hob e1 e2
      subst hW
      go_enter Tryz.func48, Tryz.ntmps48
      go_wp2_with (first
        | (refine wpList_store_row rfl 25 (.tmp 2) (.tmp 5) rfl (w.heap.size + 1) (u8s Z32).toArray rfl rfl 25 _ HB1.out HI.out rfl HO1.out ?_)
        | (go_at_call 86; refine HA.out.mono ?_; rintro e w' ⟨rfl, h, q⟩; (have HB1 := Lib.hid (HOB.out.og q (show w.heap.size + 1 ≠ a by omega))); (have HH := Lib.hid h); (have HQ := Lib.hid q); clear h q))
      exact bodyPost_ret (v := .agg (u8s Z32).toArray) (results_cell_row rfl _ _ (w.heap.size + 1) 25 _ (0, 0) (.array 32 5) rfl (blk_setRow HB1.out (u8s Z32)) (by kernel_rfl) rfl HI.out) rfl ⟨rfl, ⟨_, blk_setRow_far HH.out (by omega) _⟩, og_setRow (HQ0.out.og.trans HQ.out) (.inr (Nat.le_succ _)) _⟩
end Go.Proofs.YtajkmblcphdnbaaGreat
