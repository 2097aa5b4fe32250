import Derived.Test.YtajkmblcphdnbaaGreatWH
import Derived.Test.YtajkmblcphdnbaaGreatWEU
import Derived.Test.YtajkmblcphdnbaaGreatWEJ
/-! A reader's other numbers: printed by genwire.py. -/
namespace Go.Proofs.YtajkmblcphdnbaaGreat
open Go.RowKit
set_option linter.unusedVariables false
set_option linter.unusedSimpArgs false

section
variable (a p : Nat) (sl : Value) (l : List Nat) (w : World)
theorem u16_yes (hp : w.cell? ⟨p, 0, none⟩ = some (.pointer (some ⟨a, 0, none⟩))) (hb : Blk w a 69 [.bool true, .bool false, sl]) (hs : Sl w sl l) (hl : ∀ z ∈ l, z < 256) (hk : 2 ≤ l.length) :
    Calls Tryz.prog 80 #[.pointer (some ⟨p, 0, none⟩)] w fun e w' => e = .returned (.int .i64 (be (l.take 2) : Nat)) ∧ (∃ sl', Blk w' a 69 [.bool true, .bool false, sl'] ∧ Tl sl l sl' (l.drop 2)) ∧ Og a w w' := by
  have HT := Lib.hid (number_yes a true false sl l w 2 hb hs hl hk (by omega))
  have hv : be (l.take 2) < 256 ^ 2 := by have := be_lt (l.take 2) (fun x hx => hl x (List.mem_of_mem_take hx)); rwa [List.length_take, Nat.min_eq_left hk] at this
  have hv' : be (l.take 2) < 65536 := Nat.lt_of_lt_of_le hv (by decide)
  clear hb hs hl hv
  generalize be (l.take 2) = N at *
  go_enter Tryz.func80, Tryz.ntmps80
  go_wp2_with (go_at_call 67; refine HT.out.mono ?_; rintro e w1 ⟨rfl, hb1, hog⟩)
  go_ret
  exact ⟨by go_num, hb1, hog⟩
theorem u16_no (hp : w.cell? ⟨p, 0, none⟩ = some (.pointer (some ⟨a, 0, none⟩))) (hb : Blk w a 69 [.bool true, .bool false, sl]) (hs : Sl w sl l) (hk : l.length < 2) :
    Calls Tryz.prog 80 #[.pointer (some ⟨p, 0, none⟩)] w fun e w' => e = .panicked [unmet] ∧ w = w' := by
  have HT := Lib.hid (number_no a true false sl l w 2 hb hs hk)
  clear hb hs
  go_enter Tryz.func80, Tryz.ntmps80
  go_wp2_with (go_at_call 67; refine HT.out.mono ?_; rintro e w1 ⟨rfl, rfl⟩)
  exact ⟨rfl, rfl, rfl⟩
end
theorem U16_dead (p : Value) (w : World) (hd : Dead w p) : Calls Tryz.prog 44 #[p] w fun e w' => e = .returned (.int .i64 0) ∧ Qt w w' := by
  have hmf : ∀ (fn : Fn) (first cap : Array Value) (w : World), (Instr.makeFunc fn first cap).run Tryz.prog w = .ok (.func fn first cap) w := fun _ _ _ _ => rfl
  have HD := Lib.hid (askedI_dead p (.func (.func 80) #[] #[.pointer (some ⟨w.heap.size, 0, none⟩)]) _ (hd.qt ((Qt.refl w).alloc (.cells #[p] 44))))
  have hq := fun w' (q : Qt (w.alloc (.cells #[p] 44)) w') => ((Qt.refl w).alloc _).trans q
  obtain ⟨x, rfl⟩ : ∃ x, p = .pointer x := by rcases hd with rfl | ⟨a, _, _, _, rfl, _⟩ <;> exact ⟨_, rfl⟩
  clear hd
  go_enter Tryz.func44, Tryz.ntmps44
  go_wp2_with (go_at_call 65; refine HD.out.mono ?_; rintro e w' ⟨rfl, q⟩)
  go_ret
  exact ⟨rfl, hq _ q⟩
theorem U16_any (a : Nat) (st : Option (List Nat)) (w : World) (hr : RdA w a st) : Calls Tryz.prog 44 #[.pointer (some ⟨a, 0, none⟩)] w fun e w' => e = .returned (.int .i64 (num 2 st : Nat)) ∧ RdA w' a (nxt 2 st) ∧ Og a w w' := by
  have hmf : ∀ (fn : Fn) (first cap : Array Value) (w : World), (Instr.makeFunc fn first cap).run Tryz.prog w = .ok (.func fn first cap) w := fun _ _ _ _ => rfl
  have hcf : ∀ args w, (callFunc 80 args).run Tryz.prog w = .ok (.enter 80 args) w := fun _ _ => by kernel_rfl
  cases st with
  | none => exact (U16_dead _ w hr.dead).mono (by rintro e w' ⟨rfl, q⟩; obtain ⟨sl, hb⟩ := hr; exact ⟨rfl, ⟨sl, hb.qt q⟩, q.og⟩)
  | some l =>
    have hr0 : RdS w a l := hr
    obtain ⟨⟨sl, hb, hs⟩, hl⟩ := hr
    obtain ⟨sb, sc, rfl⟩ := hs.len
    have hlt := hb.lt
    have hq0 : Qt w (w.alloc (.cells #[.pointer (some ⟨a, 0, none⟩)] 44)) := (Qt.refl w).alloc _
    have hc0 : ∀ w1, Qt (w.alloc (.cells #[.pointer (some ⟨a, 0, none⟩)] 44)) w1 → w1.cell? ⟨w.heap.size, 0, none⟩ = some (.pointer (some ⟨a, 0, none⟩)) := fun w1 q => (q.cell (p := ⟨w.heap.size, 0, none⟩) (by simp)).trans (by simp [go_sem])
    by_cases hk : 2 ≤ l.length
    · have HA := Lib.hid (askedI_met a sb l.length sc 80 #[.pointer (some ⟨w.heap.size, 0, none⟩)] (be (l.take 2) : Nat) _ (hb.qt hq0) (fun sl' => Tl (.slice sb l.length sc) l sl' (l.drop 2)) hcf
        (fun w1 q => (u16_yes a w.heap.size _ l w1 (hc0 w1 q) (hb.qt (hq0.trans q)) (hs.qt (hq0.trans q)) hl hk)))
      have fin : ∀ w2, (∃ sl', Blk w2 a 69 [.bool true, .bool false, sl'] ∧ Tl (.slice sb l.length sc) l sl' (l.drop 2)) → Og a (w.alloc (.cells #[.pointer (some ⟨a, 0, none⟩)] 44)) w2 → num 2 (some l) = be (l.take 2) ∧ RdA w2 a (nxt 2 (some l)) ∧ Og a w w2 := fun w2 h q =>
        ⟨if_pos hk, by rw [nxt, if_pos hk]; exact hr0.behind (fun x hx => List.mem_of_mem_drop hx) _ hb hs h (hq0.og.trans q), hq0.og.trans q⟩
      have HF := Lib.hid fin
      clear fin hr0 hb hs hl hq0 hc0
      go_enter Tryz.func44, Tryz.ntmps44
      go_wp2_with (go_at_call 65; refine HA.out.mono ?_; rintro e w' ⟨rfl, h, q⟩; (have HH := Lib.hid h); (have HQ := Lib.hid q); clear h q)
      go_ret
      obtain ⟨h1, h2, h3⟩ := HF.out _ HH.out HQ.out
      exact ⟨by rw [h1]; rfl, h2, h3⟩
    · have HA := Lib.hid (askedI_unmet a sb l.length sc 80 #[.pointer (some ⟨w.heap.size, 0, none⟩)] _ (hb.qt hq0) hcf
        (fun w1 q => (u16_no a w.heap.size _ l w1 (hc0 w1 q) (hb.qt (hq0.trans q)) (hs.qt (hq0.trans q)) (by omega)).mono (by rintro e w2 ⟨rfl, rfl⟩; exact ⟨rfl, ⟨_, hb.qt (hq0.trans q)⟩, Og.refl _ _⟩)))
      have fin : ∀ w2, Blk w2 a 69 [.bool true, .bool true, .slice sb l.length sc] → Og a (w.alloc (.cells #[.pointer (some ⟨a, 0, none⟩)] 44)) w2 → num 2 (some l) = 0 ∧ RdA w2 a (nxt 2 (some l)) ∧ Og a w w2 := fun w2 h q =>
        ⟨if_neg hk, by rw [nxt, if_neg hk]; exact ⟨_, h⟩, hq0.og.trans q⟩
      have HF := Lib.hid fin
      clear fin hr0 hb hs hl hq0 hc0
      go_enter Tryz.func44, Tryz.ntmps44
      go_wp2_with (go_at_call 65; refine HA.out.mono ?_; rintro e w' ⟨rfl, h, q⟩; (have HH := Lib.hid h); (have HQ := Lib.hid q); clear h q)
      go_ret
      obtain ⟨h1, h2, h3⟩ := HF.out _ HH.out HQ.out
      exact ⟨by rw [h1]; rfl, h2, h3⟩
section
variable (a p : Nat) (sl : Value) (l : List Nat) (w : World)
theorem u32_yes (hp : w.cell? ⟨p, 0, none⟩ = some (.pointer (some ⟨a, 0, none⟩))) (hb : Blk w a 69 [.bool true, .bool false, sl]) (hs : Sl w sl l) (hl : ∀ z ∈ l, z < 256) (hk : 4 ≤ l.length) :
    Calls Tryz.prog 81 #[.pointer (some ⟨p, 0, none⟩)] w fun e w' => e = .returned (.int .i64 (be (l.take 4) : Nat)) ∧ (∃ sl', Blk w' a 69 [.bool true, .bool false, sl'] ∧ Tl sl l sl' (l.drop 4)) ∧ Og a w w' := by
  have HT := Lib.hid (number_yes a true false sl l w 4 hb hs hl hk (by omega))
  have hv : be (l.take 4) < 256 ^ 4 := by have := be_lt (l.take 4) (fun x hx => hl x (List.mem_of_mem_take hx)); rwa [List.length_take, Nat.min_eq_left hk] at this
  have hv' : be (l.take 4) < 4294967296 := Nat.lt_of_lt_of_le hv (by decide)
  clear hb hs hl hv
  generalize be (l.take 4) = N at *
  go_enter Tryz.func81, Tryz.ntmps81
  go_wp2_with (go_at_call 67; refine HT.out.mono ?_; rintro e w1 ⟨rfl, hb1, hog⟩)
  go_ret
  exact ⟨by go_num, hb1, hog⟩
theorem u32_no (hp : w.cell? ⟨p, 0, none⟩ = some (.pointer (some ⟨a, 0, none⟩))) (hb : Blk w a 69 [.bool true, .bool false, sl]) (hs : Sl w sl l) (hk : l.length < 4) :
    Calls Tryz.prog 81 #[.pointer (some ⟨p, 0, none⟩)] w fun e w' => e = .panicked [unmet] ∧ w = w' := by
  have HT := Lib.hid (number_no a true false sl l w 4 hb hs hk)
  clear hb hs
  go_enter Tryz.func81, Tryz.ntmps81
  go_wp2_with (go_at_call 67; refine HT.out.mono ?_; rintro e w1 ⟨rfl, rfl⟩)
  exact ⟨rfl, rfl, rfl⟩
end
theorem U32_dead (p : Value) (w : World) (hd : Dead w p) : Calls Tryz.prog 45 #[p] w fun e w' => e = .returned (.int .i64 0) ∧ Qt w w' := by
  have hmf : ∀ (fn : Fn) (first cap : Array Value) (w : World), (Instr.makeFunc fn first cap).run Tryz.prog w = .ok (.func fn first cap) w := fun _ _ _ _ => rfl
  have HD := Lib.hid (askedI_dead p (.func (.func 81) #[] #[.pointer (some ⟨w.heap.size, 0, none⟩)]) _ (hd.qt ((Qt.refl w).alloc (.cells #[p] 44))))
  have hq := fun w' (q : Qt (w.alloc (.cells #[p] 44)) w') => ((Qt.refl w).alloc _).trans q
  obtain ⟨x, rfl⟩ : ∃ x, p = .pointer x := by rcases hd with rfl | ⟨a, _, _, _, rfl, _⟩ <;> exact ⟨_, rfl⟩
  clear hd
  go_enter Tryz.func45, Tryz.ntmps45
  go_wp2_with (go_at_call 65; refine HD.out.mono ?_; rintro e w' ⟨rfl, q⟩)
  go_ret
  exact ⟨rfl, hq _ q⟩
theorem U32_any (a : Nat) (st : Option (List Nat)) (w : World) (hr : RdA w a st) : Calls Tryz.prog 45 #[.pointer (some ⟨a, 0, none⟩)] w fun e w' => e = .returned (.int .i64 (num 4 st : Nat)) ∧ RdA w' a (nxt 4 st) ∧ Og a w w' := by
  have hmf : ∀ (fn : Fn) (first cap : Array Value) (w : World), (Instr.makeFunc fn first cap).run Tryz.prog w = .ok (.func fn first cap) w := fun _ _ _ _ => rfl
  have hcf : ∀ args w, (callFunc 81 args).run Tryz.prog w = .ok (.enter 81 args) w := fun _ _ => by kernel_rfl
  cases st with
  | none => exact (U32_dead _ w hr.dead).mono (by rintro e w' ⟨rfl, q⟩; obtain ⟨sl, hb⟩ := hr; exact ⟨rfl, ⟨sl, hb.qt q⟩, q.og⟩)
  | some l =>
    have hr0 : RdS w a l := hr
    obtain ⟨⟨sl, hb, hs⟩, hl⟩ := hr
    obtain ⟨sb, sc, rfl⟩ := hs.len
    have hlt := hb.lt
    have hq0 : Qt w (w.alloc (.cells #[.pointer (some ⟨a, 0, none⟩)] 44)) := (Qt.refl w).alloc _
    have hc0 : ∀ w1, Qt (w.alloc (.cells #[.pointer (some ⟨a, 0, none⟩)] 44)) w1 → w1.cell? ⟨w.heap.size, 0, none⟩ = some (.pointer (some ⟨a, 0, none⟩)) := fun w1 q => (q.cell (p := ⟨w.heap.size, 0, none⟩) (by simp)).trans (by simp [go_sem])
    by_cases hk : 4 ≤ l.length
    · have HA := Lib.hid (askedI_met a sb l.length sc 81 #[.pointer (some ⟨w.heap.size, 0, none⟩)] (be (l.take 4) : Nat) _ (hb.qt hq0) (fun sl' => Tl (.slice sb l.length sc) l sl' (l.drop 4)) hcf
        (fun w1 q => (u32_yes a w.heap.size _ l w1 (hc0 w1 q) (hb.qt (hq0.trans q)) (hs.qt (hq0.trans q)) hl hk)))
      have fin : ∀ w2, (∃ sl', Blk w2 a 69 [.bool true, .bool false, sl'] ∧ Tl (.slice sb l.length sc) l sl' (l.drop 4)) → Og a (w.alloc (.cells #[.pointer (some ⟨a, 0, none⟩)] 44)) w2 → num 4 (some l) = be (l.take 4) ∧ RdA w2 a (nxt 4 (some l)) ∧ Og a w w2 := fun w2 h q =>
        ⟨if_pos hk, by rw [nxt, if_pos hk]; exact hr0.behind (fun x hx => List.mem_of_mem_drop hx) _ hb hs h (hq0.og.trans q), hq0.og.trans q⟩
      have HF := Lib.hid fin
      clear fin hr0 hb hs hl hq0 hc0
      go_enter Tryz.func45, Tryz.ntmps45
      go_wp2_with (go_at_call 65; refine HA.out.mono ?_; rintro e w' ⟨rfl, h, q⟩; (have HH := Lib.hid h); (have HQ := Lib.hid q); clear h q)
      go_ret
      obtain ⟨h1, h2, h3⟩ := HF.out _ HH.out HQ.out
      exact ⟨by rw [h1]; rfl, h2, h3⟩
    · have HA := Lib.hid (askedI_unmet a sb l.length sc 81 #[.pointer (some ⟨w.heap.size, 0, none⟩)] _ (hb.qt hq0) hcf
        (fun w1 q => (u32_no a w.heap.size _ l w1 (hc0 w1 q) (hb.qt (hq0.trans q)) (hs.qt (hq0.trans q)) (by omega)).mono (by rintro e w2 ⟨rfl, rfl⟩; exact ⟨rfl, ⟨_, hb.qt (hq0.trans q)⟩, Og.refl _ _⟩)))
      have fin : ∀ w2, Blk w2 a 69 [.bool true, .bool true, .slice sb l.length sc] → Og a (w.alloc (.cells #[.pointer (some ⟨a, 0, none⟩)] 44)) w2 → num 4 (some l) = 0 ∧ RdA w2 a (nxt 4 (some l)) ∧ Og a w w2 := fun w2 h q =>
        ⟨if_neg hk, by rw [nxt, if_neg hk]; exact ⟨_, h⟩, hq0.og.trans q⟩
      have HF := Lib.hid fin
      clear fin hr0 hb hs hl hq0 hc0
      go_enter Tryz.func45, Tryz.ntmps45
      go_wp2_with (go_at_call 65; refine HA.out.mono ?_; rintro e w' ⟨rfl, h, q⟩; (have HH := Lib.hid h); (have HQ := Lib.hid q); clear h q)
      go_ret
      obtain ⟨h1, h2, h3⟩ := HF.out _ HH.out HQ.out
      exact ⟨by rw [h1]; rfl, h2, h3⟩
section
variable (a p : Nat) (sl : Value) (l : List Nat) (w : World)
theorem u64_yes (hp : w.cell? ⟨p, 0, none⟩ = some (.pointer (some ⟨a, 0, none⟩))) (hb : Blk w a 69 [.bool true, .bool false, sl]) (hs : Sl w sl l) (hl : ∀ z ∈ l, z < 256) (hk : 8 ≤ l.length) :
    Calls Tryz.prog 83 #[.pointer (some ⟨p, 0, none⟩)] w fun e w' => e = .returned (.int .u64 (be (l.take 8) : Nat)) ∧ (∃ sl', Blk w' a 69 [.bool true, .bool false, sl'] ∧ Tl sl l sl' (l.drop 8)) ∧ Og a w w' := by
  have HT := Lib.hid (number_yes a true false sl l w 8 hb hs hl hk (by omega))
  have hv : be (l.take 8) < 256 ^ 8 := by have := be_lt (l.take 8) (fun x hx => hl x (List.mem_of_mem_take hx)); rwa [List.length_take, Nat.min_eq_left hk] at this
  have hv' : be (l.take 8) < 18446744073709551616 := Nat.lt_of_lt_of_le hv (by decide)
  clear hb hs hl hv
  generalize be (l.take 8) = N at *
  go_enter Tryz.func83, Tryz.ntmps83
  go_wp2_with (go_at_call 67; refine HT.out.mono ?_; rintro e w1 ⟨rfl, hb1, hog⟩)
  go_ret
  exact ⟨by go_num, hb1, hog⟩
theorem u64_no (hp : w.cell? ⟨p, 0, none⟩ = some (.pointer (some ⟨a, 0, none⟩))) (hb : Blk w a 69 [.bool true, .bool false, sl]) (hs : Sl w sl l) (hk : l.length < 8) :
    Calls Tryz.prog 83 #[.pointer (some ⟨p, 0, none⟩)] w fun e w' => e = .panicked [unmet] ∧ w = w' := by
  have HT := Lib.hid (number_no a true false sl l w 8 hb hs hk)
  clear hb hs
  go_enter Tryz.func83, Tryz.ntmps83
  go_wp2_with (go_at_call 67; refine HT.out.mono ?_; rintro e w1 ⟨rfl, rfl⟩)
  exact ⟨rfl, rfl, rfl⟩
end
theorem U64_dead (p : Value) (w : World) (hd : Dead w p) : Calls Tryz.prog 46 #[p] w fun e w' => e = .returned (.int .u64 0) ∧ Qt w w' := by
  have hmf : ∀ (fn : Fn) (first cap : Array Value) (w : World), (Instr.makeFunc fn first cap).run Tryz.prog w = .ok (.func fn first cap) w := fun _ _ _ _ => rfl
  have HD := Lib.hid (askedU_dead p (.func (.func 83) #[] #[.pointer (some ⟨w.heap.size, 0, none⟩)]) _ (hd.qt ((Qt.refl w).alloc (.cells #[p] 44))))
  have hq := fun w' (q : Qt (w.alloc (.cells #[p] 44)) w') => ((Qt.refl w).alloc _).trans q
  obtain ⟨x, rfl⟩ : ∃ x, p = .pointer x := by rcases hd with rfl | ⟨a, _, _, _, rfl, _⟩ <;> exact ⟨_, rfl⟩
  clear hd
  go_enter Tryz.func46, Tryz.ntmps46
  go_wp2_with (go_at_call 82; refine HD.out.mono ?_; rintro e w' ⟨rfl, q⟩)
  go_ret
  exact ⟨rfl, hq _ q⟩
theorem U64_any (a : Nat) (st : Option (List Nat)) (w : World) (hr : RdA w a st) : Calls Tryz.prog 46 #[.pointer (some ⟨a, 0, none⟩)] w fun e w' => e = .returned (.int .u64 (num 8 st : Nat)) ∧ RdA w' a (nxt 8 st) ∧ Og a w w' := by
  have hmf : ∀ (fn : Fn) (first cap : Array Value) (w : World), (Instr.makeFunc fn first cap).run Tryz.prog w = .ok (.func fn first cap) w := fun _ _ _ _ => rfl
  have hcf : ∀ args w, (callFunc 83 args).run Tryz.prog w = .ok (.enter 83 args) w := fun _ _ => by kernel_rfl
  cases st with
  | none => exact (U64_dead _ w hr.dead).mono (by rintro e w' ⟨rfl, q⟩; obtain ⟨sl, hb⟩ := hr; exact ⟨rfl, ⟨sl, hb.qt q⟩, q.og⟩)
  | some l =>
    have hr0 : RdS w a l := hr
    obtain ⟨⟨sl, hb, hs⟩, hl⟩ := hr
    obtain ⟨sb, sc, rfl⟩ := hs.len
    have hlt := hb.lt
    have hq0 : Qt w (w.alloc (.cells #[.pointer (some ⟨a, 0, none⟩)] 44)) := (Qt.refl w).alloc _
    have hc0 : ∀ w1, Qt (w.alloc (.cells #[.pointer (some ⟨a, 0, none⟩)] 44)) w1 → w1.cell? ⟨w.heap.size, 0, none⟩ = some (.pointer (some ⟨a, 0, none⟩)) := fun w1 q => (q.cell (p := ⟨w.heap.size, 0, none⟩) (by simp)).trans (by simp [go_sem])
    by_cases hk : 8 ≤ l.length
    · have HA := Lib.hid (askedU_met a sb l.length sc 83 #[.pointer (some ⟨w.heap.size, 0, none⟩)] (be (l.take 8) : Nat) _ (hb.qt hq0) (fun sl' => Tl (.slice sb l.length sc) l sl' (l.drop 8)) hcf
        (fun w1 q => (u64_yes a w.heap.size _ l w1 (hc0 w1 q) (hb.qt (hq0.trans q)) (hs.qt (hq0.trans q)) hl hk)))
      have fin : ∀ w2, (∃ sl', Blk w2 a 69 [.bool true, .bool false, sl'] ∧ Tl (.slice sb l.length sc) l sl' (l.drop 8)) → Og a (w.alloc (.cells #[.pointer (some ⟨a, 0, none⟩)] 44)) w2 → num 8 (some l) = be (l.take 8) ∧ RdA w2 a (nxt 8 (some l)) ∧ Og a w w2 := fun w2 h q =>
        ⟨if_pos hk, by rw [nxt, if_pos hk]; exact hr0.behind (fun x hx => List.mem_of_mem_drop hx) _ hb hs h (hq0.og.trans q), hq0.og.trans q⟩
      have HF := Lib.hid fin
      clear fin hr0 hb hs hl hq0 hc0
      go_enter Tryz.func46, Tryz.ntmps46
      go_wp2_with (go_at_call 82; refine HA.out.mono ?_; rintro e w' ⟨rfl, h, q⟩; (have HH := Lib.hid h); (have HQ := Lib.hid q); clear h q)
      go_ret
      obtain ⟨h1, h2, h3⟩ := HF.out _ HH.out HQ.out
      exact ⟨by rw [h1]; rfl, h2, h3⟩
    · have HA := Lib.hid (askedU_unmet a sb l.length sc 83 #[.pointer (some ⟨w.heap.size, 0, none⟩)] _ (hb.qt hq0) hcf
        (fun w1 q => (u64_no a w.heap.size _ l w1 (hc0 w1 q) (hb.qt (hq0.trans q)) (hs.qt (hq0.trans q)) (by omega)).mono (by rintro e w2 ⟨rfl, rfl⟩; exact ⟨rfl, ⟨_, hb.qt (hq0.trans q)⟩, Og.refl _ _⟩)))
      have fin : ∀ w2, Blk w2 a 69 [.bool true, .bool true, .slice sb l.length sc] → Og a (w.alloc (.cells #[.pointer (some ⟨a, 0, none⟩)] 44)) w2 → num 8 (some l) = 0 ∧ RdA w2 a (nxt 8 (some l)) ∧ Og a w w2 := fun w2 h q =>
        ⟨if_neg hk, by rw [nxt, if_neg hk]; exact ⟨_, h⟩, hq0.og.trans q⟩
      have HF := Lib.hid fin
      clear fin hr0 hb hs hl hq0 hc0
      go_enter Tryz.func46, Tryz.ntmps46
      go_wp2_with (go_at_call 82; refine HA.out.mono ?_; rintro e w' ⟨rfl, h, q⟩; (have HH := Lib.hid h); (have HQ := Lib.hid q); clear h q)
      go_ret
      obtain ⟨h1, h2, h3⟩ := HF.out _ HH.out HQ.out
      exact ⟨by rw [h1]; rfl, h2, h3⟩
section
variable (a p : Nat) (sl : Value) (l : List Nat) (w : World)
theorem i64_yes (hp : w.cell? ⟨p, 0, none⟩ = some (.pointer (some ⟨a, 0, none⟩))) (hb : Blk w a 69 [.bool true, .bool false, sl]) (hs : Sl w sl l) (hl : ∀ z ∈ l, z < 256) (hk : 8 ≤ l.length) :
    Calls Tryz.prog 85 #[.pointer (some ⟨p, 0, none⟩)] w fun e w' => e = .returned (.int .i64 (wrap64 (be (l.take 8) : Nat))) ∧ (∃ sl', Blk w' a 69 [.bool true, .bool false, sl'] ∧ Tl sl l sl' (l.drop 8)) ∧ Og a w w' := by
  have HT := Lib.hid (number_yes a true false sl l w 8 hb hs hl hk (by omega))
  have hv : be (l.take 8) < 256 ^ 8 := by have := be_lt (l.take 8) (fun x hx => hl x (List.mem_of_mem_take hx)); rwa [List.length_take, Nat.min_eq_left hk] at this
  have hv' : be (l.take 8) < 18446744073709551616 := Nat.lt_of_lt_of_le hv (by decide)
  clear hb hs hl hv
  generalize be (l.take 8) = N at *
  go_enter Tryz.func85, Tryz.ntmps85
  go_wp2_with (go_at_call 67; refine HT.out.mono ?_; rintro e w1 ⟨rfl, hb1, hog⟩)
  go_ret
  exact ⟨by go_num, hb1, hog⟩
theorem i64_no (hp : w.cell? ⟨p, 0, none⟩ = some (.pointer (some ⟨a, 0, none⟩))) (hb : Blk w a 69 [.bool true, .bool false, sl]) (hs : Sl w sl l) (hk : l.length < 8) :
    Calls Tryz.prog 85 #[.pointer (some ⟨p, 0, none⟩)] w fun e w' => e = .panicked [unmet] ∧ w = w' := by
  have HT := Lib.hid (number_no a true false sl l w 8 hb hs hk)
  clear hb hs
  go_enter Tryz.func85, Tryz.ntmps85
  go_wp2_with (go_at_call 67; refine HT.out.mono ?_; rintro e w1 ⟨rfl, rfl⟩)
  exact ⟨rfl, rfl, rfl⟩
end
theorem I64_dead (p : Value) (w : World) (hd : Dead w p) : Calls Tryz.prog 47 #[p] w fun e w' => e = .returned (.int .i64 0) ∧ Qt w w' := by
  have hmf : ∀ (fn : Fn) (first cap : Array Value) (w : World), (Instr.makeFunc fn first cap).run Tryz.prog w = .ok (.func fn first cap) w := fun _ _ _ _ => rfl
  have HD := Lib.hid (askedJ_dead p (.func (.func 85) #[] #[.pointer (some ⟨w.heap.size, 0, none⟩)]) _ (hd.qt ((Qt.refl w).alloc (.cells #[p] 44))))
  have hq := fun w' (q : Qt (w.alloc (.cells #[p] 44)) w') => ((Qt.refl w).alloc _).trans q
  obtain ⟨x, rfl⟩ : ∃ x, p = .pointer x := by rcases hd with rfl | ⟨a, _, _, _, rfl, _⟩ <;> exact ⟨_, rfl⟩
  clear hd
  go_enter Tryz.func47, Tryz.ntmps47
  go_wp2_with (go_at_call 84; refine HD.out.mono ?_; rintro e w' ⟨rfl, q⟩)
  go_ret
  exact ⟨rfl, hq _ q⟩
theorem I64_any (a : Nat) (st : Option (List Nat)) (w : World) (hr : RdA w a st) : Calls Tryz.prog 47 #[.pointer (some ⟨a, 0, none⟩)] w fun e w' => e = .returned (.int .i64 (wrap64 (num 8 st : Nat))) ∧ RdA w' a (nxt 8 st) ∧ Og a w w' := by
  have hmf : ∀ (fn : Fn) (first cap : Array Value) (w : World), (Instr.makeFunc fn first cap).run Tryz.prog w = .ok (.func fn first cap) w := fun _ _ _ _ => rfl
  have hcf : ∀ args w, (callFunc 85 args).run Tryz.prog w = .ok (.enter 85 args) w := fun _ _ => by kernel_rfl
  cases st with
  | none => exact (I64_dead _ w hr.dead).mono (by rintro e w' ⟨rfl, q⟩; obtain ⟨sl, hb⟩ := hr; exact ⟨congrArg (fun x => Ending.returned (.int .i64 x)) w64_0.symm, ⟨sl, hb.qt q⟩, q.og⟩)
  | some l =>
    have hr0 : RdS w a l := hr
    obtain ⟨⟨sl, hb, hs⟩, hl⟩ := hr
    obtain ⟨sb, sc, rfl⟩ := hs.len
    have hlt := hb.lt
    have hq0 : Qt w (w.alloc (.cells #[.pointer (some ⟨a, 0, none⟩)] 44)) := (Qt.refl w).alloc _
    have hc0 : ∀ w1, Qt (w.alloc (.cells #[.pointer (some ⟨a, 0, none⟩)] 44)) w1 → w1.cell? ⟨w.heap.size, 0, none⟩ = some (.pointer (some ⟨a, 0, none⟩)) := fun w1 q => (q.cell (p := ⟨w.heap.size, 0, none⟩) (by simp)).trans (by simp [go_sem])
    by_cases hk : 8 ≤ l.length
    · have HA := Lib.hid (askedJ_met a sb l.length sc 85 #[.pointer (some ⟨w.heap.size, 0, none⟩)] (wrap64 (be (l.take 8) : Nat)) _ (hb.qt hq0) (fun sl' => Tl (.slice sb l.length sc) l sl' (l.drop 8)) hcf
        (fun w1 q => (i64_yes a w.heap.size _ l w1 (hc0 w1 q) (hb.qt (hq0.trans q)) (hs.qt (hq0.trans q)) hl hk)))
      have fin : ∀ w2, (∃ sl', Blk w2 a 69 [.bool true, .bool false, sl'] ∧ Tl (.slice sb l.length sc) l sl' (l.drop 8)) → Og a (w.alloc (.cells #[.pointer (some ⟨a, 0, none⟩)] 44)) w2 → num 8 (some l) = be (l.take 8) ∧ RdA w2 a (nxt 8 (some l)) ∧ Og a w w2 := fun w2 h q =>
        ⟨if_pos hk, by rw [nxt, if_pos hk]; exact hr0.behind (fun x hx => List.mem_of_mem_drop hx) _ hb hs h (hq0.og.trans q), hq0.og.trans q⟩
      have HF := Lib.hid fin
      clear fin hr0 hb hs hl hq0 hc0
      go_enter Tryz.func47, Tryz.ntmps47
      go_wp2_with (go_at_call 84; refine HA.out.mono ?_; rintro e w' ⟨rfl, h, q⟩; (have HH := Lib.hid h); (have HQ := Lib.hid q); clear h q)
      go_ret
      obtain ⟨h1, h2, h3⟩ := HF.out _ HH.out HQ.out
      exact ⟨by rw [h1]; rfl, h2, h3⟩
    · have HA := Lib.hid (askedJ_unmet a sb l.length sc 85 #[.pointer (some ⟨w.heap.size, 0, none⟩)] _ (hb.qt hq0) hcf
        (fun w1 q => (i64_no a w.heap.size _ l w1 (hc0 w1 q) (hb.qt (hq0.trans q)) (hs.qt (hq0.trans q)) (by omega)).mono (by rintro e w2 ⟨rfl, rfl⟩; exact ⟨rfl, ⟨_, hb.qt (hq0.trans q)⟩, Og.refl _ _⟩)))
      have fin : ∀ w2, Blk w2 a 69 [.bool true, .bool true, .slice sb l.length sc] → Og a (w.alloc (.cells #[.pointer (some ⟨a, 0, none⟩)] 44)) w2 → num 8 (some l) = 0 ∧ RdA w2 a (nxt 8 (some l)) ∧ Og a w w2 := fun w2 h q =>
        ⟨if_neg hk, by rw [nxt, if_neg hk]; exact ⟨_, h⟩, hq0.og.trans q⟩
      have HF := Lib.hid fin
      clear fin hr0 hb hs hl hq0 hc0
      go_enter Tryz.func47, Tryz.ntmps47
      go_wp2_with (go_at_call 84; refine HA.out.mono ?_; rintro e w' ⟨rfl, h, q⟩; (have HH := Lib.hid h); (have HQ := Lib.hid q); clear h q)
      go_ret
      obtain ⟨h1, h2, h3⟩ := HF.out _ HH.out HQ.out
      exact ⟨by rw [h1, w64_0]; rfl, h2, h3⟩
end Go.Proofs.YtajkmblcphdnbaaGreat
