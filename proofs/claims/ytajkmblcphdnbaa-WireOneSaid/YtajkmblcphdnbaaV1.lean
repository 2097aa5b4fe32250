import Derived.Test.YtajkmblcphdnbaaVX
/-! The reader's methods, where what is left of it lay in an elder world; again: printed by genold.py. -/
namespace Go.Proofs.Ytajkmblcphdnbaa
open Go.RowKit
set_option linter.unusedVariables false
set_option linter.unusedSimpArgs false

set_option maxRecDepth 100000 in
set_option maxHeartbeats 1000000 in
theorem U8_o (a : Nat) (st : Option (List Nat)) (w0 w : World) (hrO : RdO w0 w a st) (hr : RdA w a st) (x0 y0 : Bool) (s0 : Value) (hb0 : Blk w0 a 64 [.bool x0, .bool y0, s0]) (hs0 : ∃ a n c, s0 = .slice a n c) (q0 : Og a w0 w) : Calls Try.prog 22 #[.pointer (some ⟨a, 0, none⟩)] w fun e w' => e = .returned (.int .i64 (num 1 st : Nat)) ∧ RdO w0 w' a (nxt 1 st) ∧ Og a w w' := by
  have hmf : ∀ (fn : Fn) (first cap : Array Value) (w : World), (Instr.makeFunc fn first cap).run Try.prog w = .ok (.func fn first cap) w := fun _ _ _ _ => rfl
  have hcf : ∀ args w, (callFunc 71 args).run Try.prog w = .ok (.enter 71 args) w := fun _ _ => by kernel_rfl
  cases st with
  | none => exact (U8_dead _ w hr.dead).mono (by rintro e w' ⟨rfl, q⟩; obtain ⟨sl, hb⟩ := hr; exact ⟨rfl, ⟨sl, hb.qt q⟩, q.og⟩)
  | some l =>
    clear hr
    obtain ⟨⟨sl, hb, hsO⟩, hl⟩ := hrO
    obtain ⟨sb, sc, rfl⟩ := hsO.len
    have hs := hsO.og hb0 (no_u8 hs0) q0
    have hlt := hb.lt
    have hq0 : Qt w (w.alloc (.cells #[.pointer (some ⟨a, 0, none⟩)] 26)) := (Qt.refl w).alloc _
    have hc0 : ∀ w1, Qt (w.alloc (.cells #[.pointer (some ⟨a, 0, none⟩)] 26)) w1 → w1.cell? ⟨w.heap.size, 0, none⟩ = some (.pointer (some ⟨a, 0, none⟩)) := fun w1 q => (q.cell (p := ⟨w.heap.size, 0, none⟩) (by simp)).trans (by simp [go_sem])
    by_cases hk : 1 ≤ l.length
    · have HA := Lib.hid (askedI_met a sb l.length sc 71 #[.pointer (some ⟨w.heap.size, 0, none⟩)] (be (l.take 1) : Nat) _ (hb.qt hq0) (fun sl' => Tl (.slice sb l.length sc) l sl' (l.drop 1)) hcf
        (fun w1 q => (u8_yes a w.heap.size _ l w1 (hc0 w1 q) (hb.qt (hq0.trans q)) (hs.qt (hq0.trans q)) hl hk)))
      have fin : ∀ w2, (∃ sl', Blk w2 a 64 [.bool true, .bool false, sl'] ∧ Tl (.slice sb l.length sc) l sl' (l.drop 1)) → Og a (w.alloc (.cells #[.pointer (some ⟨a, 0, none⟩)] 26)) w2 → num 1 (some l) = be (l.take 1) ∧ RdO w0 w2 a (nxt 1 (some l)) ∧ Og a w w2 := fun w2 h q =>
        ⟨if_pos hk, by rw [nxt, if_pos hk]; exact (by obtain ⟨sl', h1, h2⟩ := h; exact ⟨⟨sl', h1, h2 _ hsO⟩, fun z hz => hl z ((fun x hx => List.mem_of_mem_drop hx) z hz)⟩), hq0.og.trans q⟩
      have HF := Lib.hid fin
      clear fin hb hs hl hq0 hc0 hsO hb0 hs0 q0
      go_enter Try.func22, Try.ntmps22
      go_wp2_with (go_at_call 69; refine HA.out.mono ?_; rintro e w' ⟨rfl, h, q⟩; (have HH := Lib.hid h); (have HQ := Lib.hid q); clear h q)
      go_ret
      obtain ⟨h1, h2, h3⟩ := HF.out _ HH.out HQ.out
      exact ⟨by rw [h1]; rfl, h2, h3⟩
    · have HA := Lib.hid (askedI_unmet a sb l.length sc 71 #[.pointer (some ⟨w.heap.size, 0, none⟩)] _ (hb.qt hq0) hcf
        (fun w1 q => (u8_no a w.heap.size _ l w1 (hc0 w1 q) (hb.qt (hq0.trans q)) (hs.qt (hq0.trans q)) (by omega)).mono (by rintro e w2 ⟨rfl, rfl⟩; exact ⟨rfl, ⟨_, hb.qt (hq0.trans q)⟩, Og.refl _ _⟩)))
      have fin : ∀ w2, Blk w2 a 64 [.bool true, .bool true, .slice sb l.length sc] → Og a (w.alloc (.cells #[.pointer (some ⟨a, 0, none⟩)] 26)) w2 → num 1 (some l) = 0 ∧ RdO w0 w2 a (nxt 1 (some l)) ∧ Og a w w2 := fun w2 h q =>
        ⟨if_neg hk, by rw [nxt, if_neg hk]; exact ⟨_, h⟩, hq0.og.trans q⟩
      have HF := Lib.hid fin
      clear fin hb hs hl hq0 hc0 hsO hb0 hs0 q0
      go_enter Try.func22, Try.ntmps22
      go_wp2_with (go_at_call 69; refine HA.out.mono ?_; rintro e w' ⟨rfl, h, q⟩; (have HH := Lib.hid h); (have HQ := Lib.hid q); clear h q)
      go_ret
      obtain ⟨h1, h2, h3⟩ := HF.out _ HH.out HQ.out
      exact ⟨by rw [h1]; rfl, h2, h3⟩
set_option maxRecDepth 100000 in
set_option maxHeartbeats 1000000 in
theorem U16_o (a : Nat) (st : Option (List Nat)) (w0 w : World) (hrO : RdO w0 w a st) (hr : RdA w a st) (x0 y0 : Bool) (s0 : Value) (hb0 : Blk w0 a 64 [.bool x0, .bool y0, s0]) (hs0 : ∃ a n c, s0 = .slice a n c) (q0 : Og a w0 w) : Calls Try.prog 35 #[.pointer (some ⟨a, 0, none⟩)] w fun e w' => e = .returned (.int .i64 (num 2 st : Nat)) ∧ RdO w0 w' a (nxt 2 st) ∧ Og a w w' := by
  have hmf : ∀ (fn : Fn) (first cap : Array Value) (w : World), (Instr.makeFunc fn first cap).run Try.prog w = .ok (.func fn first cap) w := fun _ _ _ _ => rfl
  have hcf : ∀ args w, (callFunc 85 args).run Try.prog w = .ok (.enter 85 args) w := fun _ _ => by kernel_rfl
  cases st with
  | none => exact (U16_dead _ w hr.dead).mono (by rintro e w' ⟨rfl, q⟩; obtain ⟨sl, hb⟩ := hr; exact ⟨rfl, ⟨sl, hb.qt q⟩, q.og⟩)
  | some l =>
    clear hr
    obtain ⟨⟨sl, hb, hsO⟩, hl⟩ := hrO
    obtain ⟨sb, sc, rfl⟩ := hsO.len
    have hs := hsO.og hb0 (no_u8 hs0) q0
    have hlt := hb.lt
    have hq0 : Qt w (w.alloc (.cells #[.pointer (some ⟨a, 0, none⟩)] 26)) := (Qt.refl w).alloc _
    have hc0 : ∀ w1, Qt (w.alloc (.cells #[.pointer (some ⟨a, 0, none⟩)] 26)) w1 → w1.cell? ⟨w.heap.size, 0, none⟩ = some (.pointer (some ⟨a, 0, none⟩)) := fun w1 q => (q.cell (p := ⟨w.heap.size, 0, none⟩) (by simp)).trans (by simp [go_sem])
    by_cases hk : 2 ≤ l.length
    · have HA := Lib.hid (askedI_met a sb l.length sc 85 #[.pointer (some ⟨w.heap.size, 0, none⟩)] (be (l.take 2) : Nat) _ (hb.qt hq0) (fun sl' => Tl (.slice sb l.length sc) l sl' (l.drop 2)) hcf
        (fun w1 q => (u16_yes a w.heap.size _ l w1 (hc0 w1 q) (hb.qt (hq0.trans q)) (hs.qt (hq0.trans q)) hl hk)))
      have fin : ∀ w2, (∃ sl', Blk w2 a 64 [.bool true, .bool false, sl'] ∧ Tl (.slice sb l.length sc) l sl' (l.drop 2)) → Og a (w.alloc (.cells #[.pointer (some ⟨a, 0, none⟩)] 26)) w2 → num 2 (some l) = be (l.take 2) ∧ RdO w0 w2 a (nxt 2 (some l)) ∧ Og a w w2 := fun w2 h q =>
        ⟨if_pos hk, by rw [nxt, if_pos hk]; exact (by obtain ⟨sl', h1, h2⟩ := h; exact ⟨⟨sl', h1, h2 _ hsO⟩, fun z hz => hl z ((fun x hx => List.mem_of_mem_drop hx) z hz)⟩), hq0.og.trans q⟩
      have HF := Lib.hid fin
      clear fin hb hs hl hq0 hc0 hsO hb0 hs0 q0
      go_enter Try.func35, Try.ntmps35
      go_wp2_with (go_at_call 69; refine HA.out.mono ?_; rintro e w' ⟨rfl, h, q⟩; (have HH := Lib.hid h); (have HQ := Lib.hid q); clear h q)
      go_ret
      obtain ⟨h1, h2, h3⟩ := HF.out _ HH.out HQ.out
      exact ⟨by rw [h1]; rfl, h2, h3⟩
    · have HA := Lib.hid (askedI_unmet a sb l.length sc 85 #[.pointer (some ⟨w.heap.size, 0, none⟩)] _ (hb.qt hq0) hcf
        (fun w1 q => (u16_no a w.heap.size _ l w1 (hc0 w1 q) (hb.qt (hq0.trans q)) (hs.qt (hq0.trans q)) (by omega)).mono (by rintro e w2 ⟨rfl, rfl⟩; exact ⟨rfl, ⟨_, hb.qt (hq0.trans q)⟩, Og.refl _ _⟩)))
      have fin : ∀ w2, Blk w2 a 64 [.bool true, .bool true, .slice sb l.length sc] → Og a (w.alloc (.cells #[.pointer (some ⟨a, 0, none⟩)] 26)) w2 → num 2 (some l) = 0 ∧ RdO w0 w2 a (nxt 2 (some l)) ∧ Og a w w2 := fun w2 h q =>
        ⟨if_neg hk, by rw [nxt, if_neg hk]; exact ⟨_, h⟩, hq0.og.trans q⟩
      have HF := Lib.hid fin
      clear fin hb hs hl hq0 hc0 hsO hb0 hs0 q0
      go_enter Try.func35, Try.ntmps35
      go_wp2_with (go_at_call 69; refine HA.out.mono ?_; rintro e w' ⟨rfl, h, q⟩; (have HH := Lib.hid h); (have HQ := Lib.hid q); clear h q)
      go_ret
      obtain ⟨h1, h2, h3⟩ := HF.out _ HH.out HQ.out
      exact ⟨by rw [h1]; rfl, h2, h3⟩
set_option maxRecDepth 100000 in
set_option maxHeartbeats 1000000 in
theorem U32_o (a : Nat) (st : Option (List Nat)) (w0 w : World) (hrO : RdO w0 w a st) (hr : RdA w a st) (x0 y0 : Bool) (s0 : Value) (hb0 : Blk w0 a 64 [.bool x0, .bool y0, s0]) (hs0 : ∃ a n c, s0 = .slice a n c) (q0 : Og a w0 w) : Calls Try.prog 36 #[.pointer (some ⟨a, 0, none⟩)] w fun e w' => e = .returned (.int .i64 (num 4 st : Nat)) ∧ RdO w0 w' a (nxt 4 st) ∧ Og a w w' := by
  have hmf : ∀ (fn : Fn) (first cap : Array Value) (w : World), (Instr.makeFunc fn first cap).run Try.prog w = .ok (.func fn first cap) w := fun _ _ _ _ => rfl
  have hcf : ∀ args w, (callFunc 86 args).run Try.prog w = .ok (.enter 86 args) w := fun _ _ => by kernel_rfl
  cases st with
  | none => exact (U32_dead _ w hr.dead).mono (by rintro e w' ⟨rfl, q⟩; obtain ⟨sl, hb⟩ := hr; exact ⟨rfl, ⟨sl, hb.qt q⟩, q.og⟩)
  | some l =>
    clear hr
    obtain ⟨⟨sl, hb, hsO⟩, hl⟩ := hrO
    obtain ⟨sb, sc, rfl⟩ := hsO.len
    have hs := hsO.og hb0 (no_u8 hs0) q0
    have hlt := hb.lt
    have hq0 : Qt w (w.alloc (.cells #[.pointer (some ⟨a, 0, none⟩)] 26)) := (Qt.refl w).alloc _
    have hc0 : ∀ w1, Qt (w.alloc (.cells #[.pointer (some ⟨a, 0, none⟩)] 26)) w1 → w1.cell? ⟨w.heap.size, 0, none⟩ = some (.pointer (some ⟨a, 0, none⟩)) := fun w1 q => (q.cell (p := ⟨w.heap.size, 0, none⟩) (by simp)).trans (by simp [go_sem])
    by_cases hk : 4 ≤ l.length
    · have HA := Lib.hid (askedI_met a sb l.length sc 86 #[.pointer (some ⟨w.heap.size, 0, none⟩)] (be (l.take 4) : Nat) _ (hb.qt hq0) (fun sl' => Tl (.slice sb l.length sc) l sl' (l.drop 4)) hcf
        (fun w1 q => (u32_yes a w.heap.size _ l w1 (hc0 w1 q) (hb.qt (hq0.trans q)) (hs.qt (hq0.trans q)) hl hk)))
      have fin : ∀ w2, (∃ sl', Blk w2 a 64 [.bool true, .bool false, sl'] ∧ Tl (.slice sb l.length sc) l sl' (l.drop 4)) → Og a (w.alloc (.cells #[.pointer (some ⟨a, 0, none⟩)] 26)) w2 → num 4 (some l) = be (l.take 4) ∧ RdO w0 w2 a (nxt 4 (some l)) ∧ Og a w w2 := fun w2 h q =>
        ⟨if_pos hk, by rw [nxt, if_pos hk]; exact (by obtain ⟨sl', h1, h2⟩ := h; exact ⟨⟨sl', h1, h2 _ hsO⟩, fun z hz => hl z ((fun x hx => List.mem_of_mem_drop hx) z hz)⟩), hq0.og.trans q⟩
      have HF := Lib.hid fin
      clear fin hb hs hl hq0 hc0 hsO hb0 hs0 q0
      go_enter Try.func36, Try.ntmps36
      go_wp2_with (go_at_call 69; refine HA.out.mono ?_; rintro e w' ⟨rfl, h, q⟩; (have HH := Lib.hid h); (have HQ := Lib.hid q); clear h q)
      go_ret
      obtain ⟨h1, h2, h3⟩ := HF.out _ HH.out HQ.out
      exact ⟨by rw [h1]; rfl, h2, h3⟩
    · have HA := Lib.hid (askedI_unmet a sb l.length sc 86 #[.pointer (some ⟨w.heap.size, 0, none⟩)] _ (hb.qt hq0) hcf
        (fun w1 q => (u32_no a w.heap.size _ l w1 (hc0 w1 q) (hb.qt (hq0.trans q)) (hs.qt (hq0.trans q)) (by omega)).mono (by rintro e w2 ⟨rfl, rfl⟩; exact ⟨rfl, ⟨_, hb.qt (hq0.trans q)⟩, Og.refl _ _⟩)))
      have fin : ∀ w2, Blk w2 a 64 [.bool true, .bool true, .slice sb l.length sc] → Og a (w.alloc (.cells #[.pointer (some ⟨a, 0, none⟩)] 26)) w2 → num 4 (some l) = 0 ∧ RdO w0 w2 a (nxt 4 (some l)) ∧ Og a w w2 := fun w2 h q =>
        ⟨if_neg hk, by rw [nxt, if_neg hk]; exact ⟨_, h⟩, hq0.og.trans q⟩
      have HF := Lib.hid fin
      clear fin hb hs hl hq0 hc0 hsO hb0 hs0 q0
      go_enter Try.func36, Try.ntmps36
      go_wp2_with (go_at_call 69; refine HA.out.mono ?_; rintro e w' ⟨rfl, h, q⟩; (have HH := Lib.hid h); (have HQ := Lib.hid q); clear h q)
      go_ret
      obtain ⟨h1, h2, h3⟩ := HF.out _ HH.out HQ.out
      exact ⟨by rw [h1]; rfl, h2, h3⟩
set_option maxRecDepth 100000 in
set_option maxHeartbeats 1000000 in
theorem U64_o (a : Nat) (st : Option (List Nat)) (w0 w : World) (hrO : RdO w0 w a st) (hr : RdA w a st) (x0 y0 : Bool) (s0 : Value) (hb0 : Blk w0 a 64 [.bool x0, .bool y0, s0]) (hs0 : ∃ a n c, s0 = .slice a n c) (q0 : Og a w0 w) : Calls Try.prog 37 #[.pointer (some ⟨a, 0, none⟩)] w fun e w' => e = .returned (.int .u64 (num 8 st : Nat)) ∧ RdO w0 w' a (nxt 8 st) ∧ Og a w w' := by
  have hmf : ∀ (fn : Fn) (first cap : Array Value) (w : World), (Instr.makeFunc fn first cap).run Try.prog w = .ok (.func fn first cap) w := fun _ _ _ _ => rfl
  have hcf : ∀ args w, (callFunc 88 args).run Try.prog w = .ok (.enter 88 args) w := fun _ _ => by kernel_rfl
  cases st with
  | none => exact (U64_dead _ w hr.dead).mono (by rintro e w' ⟨rfl, q⟩; obtain ⟨sl, hb⟩ := hr; exact ⟨rfl, ⟨sl, hb.qt q⟩, q.og⟩)
  | some l =>
    clear hr
    obtain ⟨⟨sl, hb, hsO⟩, hl⟩ := hrO
    obtain ⟨sb, sc, rfl⟩ := hsO.len
    have hs := hsO.og hb0 (no_u8 hs0) q0
    have hlt := hb.lt
    have hq0 : Qt w (w.alloc (.cells #[.pointer (some ⟨a, 0, none⟩)] 26)) := (Qt.refl w).alloc _
    have hc0 : ∀ w1, Qt (w.alloc (.cells #[.pointer (some ⟨a, 0, none⟩)] 26)) w1 → w1.cell? ⟨w.heap.size, 0, none⟩ = some (.pointer (some ⟨a, 0, none⟩)) := fun w1 q => (q.cell (p := ⟨w.heap.size, 0, none⟩) (by simp)).trans (by simp [go_sem])
    by_cases hk : 8 ≤ l.length
    · have HA := Lib.hid (askedU_met a sb l.length sc 88 #[.pointer (some ⟨w.heap.size, 0, none⟩)] (be (l.take 8) : Nat) _ (hb.qt hq0) (fun sl' => Tl (.slice sb l.length sc) l sl' (l.drop 8)) hcf
        (fun w1 q => (u64_yes a w.heap.size _ l w1 (hc0 w1 q) (hb.qt (hq0.trans q)) (hs.qt (hq0.trans q)) hl hk)))
      have fin : ∀ w2, (∃ sl', Blk w2 a 64 [.bool true, .bool false, sl'] ∧ Tl (.slice sb l.length sc) l sl' (l.drop 8)) → Og a (w.alloc (.cells #[.pointer (some ⟨a, 0, none⟩)] 26)) w2 → num 8 (some l) = be (l.take 8) ∧ RdO w0 w2 a (nxt 8 (some l)) ∧ Og a w w2 := fun w2 h q =>
        ⟨if_pos hk, by rw [nxt, if_pos hk]; exact (by obtain ⟨sl', h1, h2⟩ := h; exact ⟨⟨sl', h1, h2 _ hsO⟩, fun z hz => hl z ((fun x hx => List.mem_of_mem_drop hx) z hz)⟩), hq0.og.trans q⟩
      have HF := Lib.hid fin
      clear fin hb hs hl hq0 hc0 hsO hb0 hs0 q0
      go_enter Try.func37, Try.ntmps37
      go_wp2_with (go_at_call 87; refine HA.out.mono ?_; rintro e w' ⟨rfl, h, q⟩; (have HH := Lib.hid h); (have HQ := Lib.hid q); clear h q)
      go_ret
      obtain ⟨h1, h2, h3⟩ := HF.out _ HH.out HQ.out
      exact ⟨by rw [h1]; rfl, h2, h3⟩
    · have HA := Lib.hid (askedU_unmet a sb l.length sc 88 #[.pointer (some ⟨w.heap.size, 0, none⟩)] _ (hb.qt hq0) hcf
        (fun w1 q => (u64_no a w.heap.size _ l w1 (hc0 w1 q) (hb.qt (hq0.trans q)) (hs.qt (hq0.trans q)) (by omega)).mono (by rintro e w2 ⟨rfl, rfl⟩; exact ⟨rfl, ⟨_, hb.qt (hq0.trans q)⟩, Og.refl _ _⟩)))
      have fin : ∀ w2, Blk w2 a 64 [.bool true, .bool true, .slice sb l.length sc] → Og a (w.alloc (.cells #[.pointer (some ⟨a, 0, none⟩)] 26)) w2 → num 8 (some l) = 0 ∧ RdO w0 w2 a (nxt 8 (some l)) ∧ Og a w w2 := fun w2 h q =>
        ⟨if_neg hk, by rw [nxt, if_neg hk]; exact ⟨_, h⟩, hq0.og.trans q⟩
      have HF := Lib.hid fin
      clear fin hb hs hl hq0 hc0 hsO hb0 hs0 q0
      go_enter Try.func37, Try.ntmps37
      go_wp2_with (go_at_call 87; refine HA.out.mono ?_; rintro e w' ⟨rfl, h, q⟩; (have HH := Lib.hid h); (have HQ := Lib.hid q); clear h q)
      go_ret
      obtain ⟨h1, h2, h3⟩ := HF.out _ HH.out HQ.out
      exact ⟨by rw [h1]; rfl, h2, h3⟩
set_option maxRecDepth 100000 in
set_option maxHeartbeats 1000000 in
theorem I64_o (a : Nat) (st : Option (List Nat)) (w0 w : World) (hrO : RdO w0 w a st) (hr : RdA w a st) (x0 y0 : Bool) (s0 : Value) (hb0 : Blk w0 a 64 [.bool x0, .bool y0, s0]) (hs0 : ∃ a n c, s0 = .slice a n c) (q0 : Og a w0 w) : Calls Try.prog 38 #[.pointer (some ⟨a, 0, none⟩)] w fun e w' => e = .returned (.int .i64 (wrap64 (num 8 st : Nat))) ∧ RdO w0 w' a (nxt 8 st) ∧ Og a w w' := by
  have hmf : ∀ (fn : Fn) (first cap : Array Value) (w : World), (Instr.makeFunc fn first cap).run Try.prog w = .ok (.func fn first cap) w := fun _ _ _ _ => rfl
  have hcf : ∀ args w, (callFunc 90 args).run Try.prog w = .ok (.enter 90 args) w := fun _ _ => by kernel_rfl
  cases st with
  | none => exact (I64_dead _ w hr.dead).mono (by rintro e w' ⟨rfl, q⟩; obtain ⟨sl, hb⟩ := hr; exact ⟨congrArg (fun x => Ending.returned (.int .i64 x)) w64_0.symm, ⟨sl, hb.qt q⟩, q.og⟩)
  | some l =>
    clear hr
    obtain ⟨⟨sl, hb, hsO⟩, hl⟩ := hrO
    obtain ⟨sb, sc, rfl⟩ := hsO.len
    have hs := hsO.og hb0 (no_u8 hs0) q0
    have hlt := hb.lt
    have hq0 : Qt w (w.alloc (.cells #[.pointer (some ⟨a, 0, none⟩)] 26)) := (Qt.refl w).alloc _
    have hc0 : ∀ w1, Qt (w.alloc (.cells #[.pointer (some ⟨a, 0, none⟩)] 26)) w1 → w1.cell? ⟨w.heap.size, 0, none⟩ = some (.pointer (some ⟨a, 0, none⟩)) := fun w1 q => (q.cell (p := ⟨w.heap.size, 0, none⟩) (by simp)).trans (by simp [go_sem])
    by_cases hk : 8 ≤ l.length
    · have HA := Lib.hid (askedJ_met a sb l.length sc 90 #[.pointer (some ⟨w.heap.size, 0, none⟩)] (wrap64 (be (l.take 8) : Nat)) _ (hb.qt hq0) (fun sl' => Tl (.slice sb l.length sc) l sl' (l.drop 8)) hcf
        (fun w1 q => (i64_yes a w.heap.size _ l w1 (hc0 w1 q) (hb.qt (hq0.trans q)) (hs.qt (hq0.trans q)) hl hk)))
      have fin : ∀ w2, (∃ sl', Blk w2 a 64 [.bool true, .bool false, sl'] ∧ Tl (.slice sb l.length sc) l sl' (l.drop 8)) → Og a (w.alloc (.cells #[.pointer (some ⟨a, 0, none⟩)] 26)) w2 → num 8 (some l) = be (l.take 8) ∧ RdO w0 w2 a (nxt 8 (some l)) ∧ Og a w w2 := fun w2 h q =>
        ⟨if_pos hk, by rw [nxt, if_pos hk]; exact (by obtain ⟨sl', h1, h2⟩ := h; exact ⟨⟨sl', h1, h2 _ hsO⟩, fun z hz => hl z ((fun x hx => List.mem_of_mem_drop hx) z hz)⟩), hq0.og.trans q⟩
      have HF := Lib.hid fin
      clear fin hb hs hl hq0 hc0 hsO hb0 hs0 q0
      go_enter Try.func38, Try.ntmps38
      go_wp2_with (go_at_call 89; refine HA.out.mono ?_; rintro e w' ⟨rfl, h, q⟩; (have HH := Lib.hid h); (have HQ := Lib.hid q); clear h q)
      go_ret
      obtain ⟨h1, h2, h3⟩ := HF.out _ HH.out HQ.out
      exact ⟨by rw [h1]; rfl, h2, h3⟩
    · have HA := Lib.hid (askedJ_unmet a sb l.length sc 90 #[.pointer (some ⟨w.heap.size, 0, none⟩)] _ (hb.qt hq0) hcf
        (fun w1 q => (i64_no a w.heap.size _ l w1 (hc0 w1 q) (hb.qt (hq0.trans q)) (hs.qt (hq0.trans q)) (by omega)).mono (by rintro e w2 ⟨rfl, rfl⟩; exact ⟨rfl, ⟨_, hb.qt (hq0.trans q)⟩, Og.refl _ _⟩)))
      have fin : ∀ w2, Blk w2 a 64 [.bool true, .bool true, .slice sb l.length sc] → Og a (w.alloc (.cells #[.pointer (some ⟨a, 0, none⟩)] 26)) w2 → num 8 (some l) = 0 ∧ RdO w0 w2 a (nxt 8 (some l)) ∧ Og a w w2 := fun w2 h q =>
        ⟨if_neg hk, by rw [nxt, if_neg hk]; exact ⟨_, h⟩, hq0.og.trans q⟩
      have HF := Lib.hid fin
      clear fin hb hs hl hq0 hc0 hsO hb0 hs0 q0
      go_enter Try.func38, Try.ntmps38
      go_wp2_with (go_at_call 89; refine HA.out.mono ?_; rintro e w' ⟨rfl, h, q⟩; (have HH := Lib.hid h); (have HQ := Lib.hid q); clear h q)
      go_ret
      obtain ⟨h1, h2, h3⟩ := HF.out _ HH.out HQ.out
      exact ⟨by rw [h1, w64_0]; rfl, h2, h3⟩
set_option maxRecDepth 100000 in
set_option maxHeartbeats 1000000 in
theorem Hash_o (a : Nat) (st : Option (List Nat)) (w0 w : World) (hrO : RdO w0 w a st) (hr : RdA w a st) (x0 y0 : Bool) (s0 : Value) (hb0 : Blk w0 a 64 [.bool x0, .bool y0, s0]) (hs0 : ∃ a n c, s0 = .slice a n c) (q0 : Og a w0 w) : Calls Try.prog 39 #[.pointer (some ⟨a, 0, none⟩)] w fun e w' => e = .returned (.agg (u8s (hshV st)).toArray) ∧ RdO w0 w' a (nxt 32 st) ∧ Og a w w' := by
  have hmf : ∀ (fn : Fn) (first cap : Array Value) (w : World), (Instr.makeFunc fn first cap).run Try.prog w = .ok (.func fn first cap) w := fun _ _ _ _ => rfl
  have hcf : ∀ args w, (callFunc 92 args).run Try.prog w = .ok (.enter 92 args) w := fun _ _ => by kernel_rfl
  cases st with
  | none => exact (Hash_dead _ w hr.dead).mono (by rintro e w' ⟨rfl, q⟩; obtain ⟨sl, hb⟩ := hr; exact ⟨rfl, ⟨sl, hb.qt q⟩, q.og⟩)
  | some l =>
    clear hr
    obtain ⟨⟨sl, hb, hsO⟩, hl⟩ := hrO
    obtain ⟨sb, sc, rfl⟩ := hsO.len
    have hs := hsO.og hb0 (no_u8 hs0) q0
    have hlt := hb.lt
    have hq0 : Qt w ((w.alloc (.cells #[.pointer (some ⟨a, 0, none⟩)] 26)).alloc (.cells (u8s Z32).toArray 33)) := ((Qt.refl w).alloc _).alloc _
    have hob := alloc2_blk (w := w) (o := .cells #[.pointer (some ⟨a, 0, none⟩)] 26) (t := 33) (c := u8s Z32)
    obtain ⟨W, hW⟩ : ∃ W, W = (w.alloc (.cells #[.pointer (some ⟨a, 0, none⟩)] 26)).alloc (.cells (u8s Z32).toArray 33) := ⟨_, rfl⟩
    have hpc : W.cell? ⟨w.heap.size, 0, none⟩ = some (.pointer (some ⟨a, 0, none⟩)) := by rw [hW]; exact cell_al (by simp [go_sem]) (by simp) _
    rw [← hW] at hq0 hob
    have hc0 : ∀ w1, Qt W w1 → w1.cell? ⟨w.heap.size, 0, none⟩ = some (.pointer (some ⟨a, 0, none⟩)) := fun w1 q => (q.cell (p := ⟨w.heap.size, 0, none⟩) (blk_of_cell hpc)).trans hpc
    by_cases hk : 32 ≤ l.length
    · have e1 : hshV (some l) = l.take 32 := if_pos hk
      have e2 : nxt 32 (some l) = some (l.drop 32) := if_pos hk
      rw [e1, e2]
      have h32 : (l.take 32).length = 32 := by rw [List.length_take]; omega
      have HA := Lib.hid (askedH_met a sb l.length sc 92 #[.pointer (some ⟨w.heap.size, 0, none⟩)] (l.take 32) h32 W (hb.qt hq0) (fun sl' => Tl (.slice sb l.length sc) l sl' (l.drop 32)) hcf
        (fun w1 q => (hash_yes a w.heap.size _ l w1 (hc0 w1 q) (hb.qt (hq0.trans q)) (hs.qt (hq0.trans q)) hl hk)))
      have HI := Lib.hid (size_hash (l.take 32) h32)
      have HO1 := Lib.hid (u8s_all (l.take 32))
      have fin : ∀ w2, Blk w2 (w.heap.size + 1) 33 (u8s Z32) → (∃ sl', Blk w2 a 64 [.bool true, .bool false, sl'] ∧ Tl (.slice sb l.length sc) l sl' (l.drop 32)) → Og a W w2 → RdO w0 (w2.setRow (w.heap.size + 1) (u8s (l.take 32)).toArray) a (some (l.drop 32)) ∧ Og a w (w2.setRow (w.heap.size + 1) (u8s (l.take 32)).toArray) := by
        rintro w2 hb2 ⟨sl', h1, h2⟩ q
        have q2 := og_setRow (hq0.og.trans q) (.inr (Nat.le_succ w.heap.size)) (u8s (l.take 32)).toArray
        exact ⟨⟨⟨sl', blk_setRow_far h1 (by omega) _, h2 _ hsO⟩, fun z hz => hl z ((fun x hx => List.mem_of_mem_drop hx) z hz)⟩, q2⟩
      have HF := Lib.hid fin
      have HOB := Lib.hid hob
      have H32 := Lib.hid h32
      clear fin hb hs hl hq0 hc0 hpc hob e1 e2 h32 hsO hb0 hs0 q0
      subst hW
      go_enter Try.func39, Try.ntmps39
      go_wp2_with (first
        | (refine wpList_store_row rfl 33 (.tmp 2) (.tmp 5) rfl (w.heap.size + 1) (u8s (l.take 32)).toArray rfl rfl 33 _ HB1.out HI.out (by rw [List.size_toArray, List.size_toArray, u8s_len, u8s_len, H32.out, Z32_len]) HO1.out ?_)
        | (go_at_call 91; refine HA.out.mono ?_; rintro e w' ⟨rfl, h, q⟩; (have HB1 := Lib.hid (HOB.out.og q (show w.heap.size + 1 ≠ a by omega))); (have HH := Lib.hid h); (have HQ := Lib.hid q); clear h q))
      exact bodyPost_ret (v := .agg (u8s (l.take 32)).toArray) (results_cell_row rfl _ _ (w.heap.size + 1) 33 _ (0, 0) (.array 32 5) rfl (blk_setRow HB1.out (u8s (l.take 32))) (by kernel_rfl) rfl HI.out) rfl ⟨rfl, HF.out _ HB1.out HH.out HQ.out⟩
    · have e1 : hshV (some l) = Z32 := if_neg hk
      have e2 : nxt 32 (some l) = none := if_neg hk
      rw [e1, e2]
      have HA := Lib.hid (askedH_unmet a sb l.length sc 92 #[.pointer (some ⟨w.heap.size, 0, none⟩)] W (hb.qt hq0) hcf
        (fun w1 q => (hash_no a w.heap.size _ l w1 (hc0 w1 q) (hb.qt (hq0.trans q)) (hs.qt (hq0.trans q)) hl hk)))
      have HI := Lib.hid (size_hash Z32 Z32_len)
      have HO1 := Lib.hid (u8s_all Z32)
      have HOB := Lib.hid hob
      have HQ0 := Lib.hid hq0
      clear hb hs hl hq0 hc0 hpc hob e1 e2 hsO hb0 hs0 q0
      subst hW
      go_enter Try.func39, Try.ntmps39
      go_wp2_with (first
        | (refine wpList_store_row rfl 33 (.tmp 2) (.tmp 5) rfl (w.heap.size + 1) (u8s Z32).toArray rfl rfl 33 _ HB1.out HI.out rfl HO1.out ?_)
        | (go_at_call 91; refine HA.out.mono ?_; rintro e w' ⟨rfl, h, q⟩; (have HB1 := Lib.hid (HOB.out.og q (show w.heap.size + 1 ≠ a by omega))); (have HH := Lib.hid h); (have HQ := Lib.hid q); clear h q))
      exact bodyPost_ret (v := .agg (u8s Z32).toArray) (results_cell_row rfl _ _ (w.heap.size + 1) 33 _ (0, 0) (.array 32 5) rfl (blk_setRow HB1.out (u8s Z32)) (by kernel_rfl) rfl HI.out) rfl ⟨rfl, ⟨_, blk_setRow_far HH.out (by omega) _⟩, og_setRow (HQ0.out.og.trans HQ.out) (.inr (Nat.le_succ _)) _⟩
set_option maxRecDepth 100000 in
set_option maxHeartbeats 1000000 in
theorem Raw_o (a : Nat) (n : Int) (st : Option (List Nat)) (w0 w : World) (hrO : RdO w0 w a st) (hr : RdA w a st) (x0 y0 : Bool) (s0 : Value) (hb0 : Blk w0 a 64 [.bool x0, .bool y0, s0]) (hs0 : ∃ a n c, s0 = .slice a n c) (q0 : Og a w0 w) : Calls Try.prog 23 #[.pointer (some ⟨a, 0, none⟩), .int .i64 n] w fun e w' => ∃ r, e = .returned r ∧ OQ w' w.heap.size 1 r (rawB n st).length (u8s (rawB n st)) ∧ RdO w0 w' a (rawN n st) ∧ Og a w w' := by
  have hmf : ∀ (fn : Fn) (first cap : Array Value) (w : World), (Instr.makeFunc fn first cap).run Try.prog w = .ok (.func fn first cap) w := fun _ _ _ _ => rfl
  have hcf : ∀ args w, (callFunc 74 args).run Try.prog w = .ok (.enter 74 args) w := fun _ _ => by kernel_rfl
  cases st with
  | none => exact (Raw_dead _ n w hr.dead).mono (by rintro e w' ⟨rfl, q⟩; obtain ⟨sl, hb⟩ := hr; exact ⟨_, rfl, OQ.nil _ _ _, ⟨sl, hb.qt q⟩, q.og⟩)
  | some l =>
    clear hr
    obtain ⟨⟨sl, hb, hsO⟩, hl⟩ := hrO
    obtain ⟨sb, sc, rfl⟩ := hsO.len
    have hs := hsO.og hb0 (no_u8 hs0) q0
    have hlt := hb.lt
    have hq0 : Qt w ((w.alloc (.cells #[.pointer (some ⟨a, 0, none⟩)] 26)).alloc (.cells #[.int .i64 n] 3)) := ((Qt.refl w).alloc _).alloc _
    have hsz : ((w.alloc (.cells #[.pointer (some ⟨a, 0, none⟩)] 26)).alloc (.cells #[.int .i64 n] 3)).heap.size = w.heap.size + 2 := by simp
    have hc0 : ((w.alloc (.cells #[.pointer (some ⟨a, 0, none⟩)] 26)).alloc (.cells #[.int .i64 n] 3)).cell? ⟨w.heap.size, 0, none⟩ = some (.pointer (some ⟨a, 0, none⟩)) := by simp [go_sem]
    have hc1 : ((w.alloc (.cells #[.pointer (some ⟨a, 0, none⟩)] 26)).alloc (.cells #[.int .i64 n] 3)).cell? ⟨w.heap.size + 1, 0, none⟩ = some (.int .i64 n) := by simp [go_sem]
    have hW : ∃ W, (w.alloc (.cells #[.pointer (some ⟨a, 0, none⟩)] 26)).alloc (.cells #[.int .i64 n] 3) = W := ⟨_, rfl⟩
    obtain ⟨W, hW⟩ := hW
    rw [hW] at hq0 hsz hc0 hc1
    have hd0 : ∀ w1, Qt W w1 → w1.cell? ⟨w.heap.size, 0, none⟩ = some (.pointer (some ⟨a, 0, none⟩)) := fun w1 q => (q.cell (p := ⟨w.heap.size, 0, none⟩) (by show w.heap.size < _; omega)).trans hc0
    have hd1 : ∀ w1, Qt W w1 → w1.cell? ⟨w.heap.size + 1, 0, none⟩ = some (.int .i64 n) := fun w1 q => (q.cell (p := ⟨w.heap.size + 1, 0, none⟩) (by show w.heap.size + 1 < _; omega)).trans hc1
    by_cases hk : RawC n l
    · obtain ⟨k, rfl⟩ := Int.eq_ofNat_of_zero_le hk.1
      have hkl : k ≤ l.length := by have := hk.2; omega
      have HA := askedY_met a sb l.length sc 74 #[.pointer (some ⟨w.heap.size, 0, none⟩), .pointer (some ⟨w.heap.size + 1, 0, none⟩)] W (hb.qt hq0) (fun sl' => Tl (.slice sb l.length sc) l sl' (l.drop k)) (fun v w2 => OQ w2 (W.heap.size + 3) 1 v k (u8s (l.take k))) (fun v w2 x h => h.drewSet (by omega) x) hcf
        (fun w1 q hs1 => (raw_yes a w.heap.size _ l w1 (w.heap.size + 1) k (hd0 w1 q) (hd1 w1 q) (hb.qt (hq0.trans q)) (hs.qt (hq0.trans q)) hkl).mono (by rintro e w2 ⟨vb, vn, vc, rfl, ho, h⟩; exact ⟨vb, vn, vc, rfl, ho.lower hs1, h⟩))
      have e1 : rawB (k : Int) (some l) = l.take k := by rw [rawB, if_pos hk]; rfl
      have e2 : rawN (k : Int) (some l) = some (l.drop k) := by rw [rawN, if_pos hk]; rfl
      have e3 : (l.take k).length = k := by rw [List.length_take]; omega
      rw [e1, e2, e3]
      have fin : ∀ w2, (∃ sl', Blk w2 a 64 [.bool true, .bool false, sl'] ∧ Tl (.slice sb l.length sc) l sl' (l.drop k)) → Og a W w2 → RdO w0 w2 a (some (l.drop k)) ∧ Og a w w2 := fun w2 h q =>
        ⟨(by obtain ⟨sl', h1, h2⟩ := h; exact ⟨⟨sl', h1, h2 _ hsO⟩, fun z hz => hl z ((fun x hx => List.mem_of_mem_drop hx) z hz)⟩), hq0.og.trans q⟩
      have hWs := hq0.size
      subst hW
      have HA' := Lib.hid HA
      have HF := Lib.hid fin
      clear HA fin hb hs hl hq0 hc0 hc1 hd0 hd1 e1 e2 e3 hk hsz hsO hb0 hs0 q0
      go_enter Try.func23, Try.ntmps23
      go_wp2_with (go_at_call 73; refine HA'.out.mono ?_; rintro e w' ⟨vb, vn, vc, rfl, ho, h, q⟩; (have HO := Lib.hid ho); (have HH := Lib.hid h); (have HQ := Lib.hid q); clear ho h q)
      go_ret
      obtain ⟨h2, h3⟩ := HF.out _ HH.out HQ.out
      exact ⟨_, rfl, HO.out.lower (by simp at hWs ⊢; omega), h2, h3⟩
    · have hkn : n < 0 ∨ (l.length : Int) < n := by unfold RawC at hk; omega
      have HA := askedY_unmet a sb l.length sc 74 #[.pointer (some ⟨w.heap.size, 0, none⟩), .pointer (some ⟨w.heap.size + 1, 0, none⟩)] W (hb.qt hq0) hcf
        (fun w1 q => (raw_no a w.heap.size _ l w1 (w.heap.size + 1) n (hd0 w1 q) (hd1 w1 q) (hb.qt (hq0.trans q)) (hs.qt (hq0.trans q)) hkn).mono (by rintro e w2 ⟨rfl, rfl⟩; exact ⟨rfl, ⟨_, hb.qt (hq0.trans q)⟩, Og.refl _ _⟩))
      have e1 : rawB n (some l) = [] := by rw [rawB, if_neg hk]
      have e2 : rawN n (some l) = none := by rw [rawN, if_neg hk]
      rw [e1, e2]
      have HQ0 := Lib.hid hq0
      subst hW
      have HA' := Lib.hid HA
      clear HA hb hs hl hq0 hc0 hc1 hd0 hd1 e1 e2 hk hsz hkn hsO hb0 hs0 q0
      go_enter Try.func23, Try.ntmps23
      go_wp2_with (go_at_call 73; refine HA'.out.mono ?_; rintro e w' ⟨rfl, h, q⟩; (have HH := Lib.hid h); (have HQ := Lib.hid q); clear h q)
      go_ret
      exact ⟨_, rfl, OQ.nil _ _ _, ⟨_, HH.out⟩, HQ0.out.og.trans HQ.out⟩
set_option maxRecDepth 100000 in
set_option maxHeartbeats 1000000 in
theorem Text_o (a : Nat) (most : Int) (st : Option (List Nat)) (w0 w : World) (hrO : RdO w0 w a st) (hr : RdA w a st) (x0 y0 : Bool) (s0 : Value) (hb0 : Blk w0 a 64 [.bool x0, .bool y0, s0]) (hs0 : ∃ a n c, s0 = .slice a n c) (q0 : Og a w0 w) : Calls Try.prog 32 #[.pointer (some ⟨a, 0, none⟩), .int .i64 most] w fun e w' => e = .returned (.string (textV most st)) ∧ RdO w0 w' a (textN most st) ∧ Og a w w' := by
  have hmf : ∀ (fn : Fn) (first cap : Array Value) (w : World), (Instr.makeFunc fn first cap).run Try.prog w = .ok (.func fn first cap) w := fun _ _ _ _ => rfl
  have hcf : ∀ args w, (callFunc 82 args).run Try.prog w = .ok (.enter 82 args) w := fun _ _ => by kernel_rfl
  cases st with
  | none => exact (Text_dead _ most w hr.dead).mono (by rintro e w' ⟨rfl, q⟩; obtain ⟨sl, hb⟩ := hr; exact ⟨rfl, ⟨sl, hb.qt q⟩, q.og⟩)
  | some l =>
    clear hr
    obtain ⟨⟨sl, hb, hsO⟩, hl⟩ := hrO
    obtain ⟨sb, sc, rfl⟩ := hsO.len
    have hs := hsO.og hb0 (no_u8 hs0) q0
    have hlt := hb.lt
    have hq0 : Qt w ((w.alloc (.cells #[.pointer (some ⟨a, 0, none⟩)] 26)).alloc (.cells #[.int .i64 most] 3)) := ((Qt.refl w).alloc _).alloc _
    have hc0 : ∀ w1, Qt ((w.alloc (.cells #[.pointer (some ⟨a, 0, none⟩)] 26)).alloc (.cells #[.int .i64 most] 3)) w1 → w1.cell? ⟨w.heap.size, 0, none⟩ = some (.pointer (some ⟨a, 0, none⟩)) := fun w1 q => (q.cell (p := ⟨w.heap.size, 0, none⟩) (by simp <;> omega)).trans (by simp [go_sem])
    have hc1 : ∀ w1, Qt ((w.alloc (.cells #[.pointer (some ⟨a, 0, none⟩)] 26)).alloc (.cells #[.int .i64 most] 3)) w1 → w1.cell? ⟨w.heap.size + 1, 0, none⟩ = some (.int .i64 most) := fun w1 q => (q.cell (p := ⟨w.heap.size + 1, 0, none⟩) (by simp)).trans (by simp [go_sem])
    by_cases hk : TextC most l
    · have HA := Lib.hid (askedS_met a sb l.length sc 82 #[.pointer (some ⟨w.heap.size, 0, none⟩), .pointer (some ⟨w.heap.size + 1, 0, none⟩)] (str ((l.drop 2).take (be (l.take 2)))) _ (hb.qt hq0) (fun sl' => Tl (.slice sb l.length sc) l sl' ((l.drop 2).drop (be (l.take 2)))) hcf
        (fun w1 q => (text_yes a w.heap.size _ l w1 (w.heap.size + 1) most (hc0 w1 q) (hc1 w1 q) (hb.qt (hq0.trans q)) (hs.qt (hq0.trans q)) hl hk)))
      have fin : ∀ w2, (∃ sl', Blk w2 a 64 [.bool true, .bool false, sl'] ∧ Tl (.slice sb l.length sc) l sl' ((l.drop 2).drop (be (l.take 2)))) → Og a ((w.alloc (.cells #[.pointer (some ⟨a, 0, none⟩)] 26)).alloc (.cells #[.int .i64 most] 3)) w2 → textV most (some l) = (str ((l.drop 2).take (be (l.take 2)))) ∧ RdO w0 w2 a (textN most (some l)) ∧ Og a w w2 := fun w2 h q =>
        ⟨congrArg str (if_pos hk), by rw [textN, if_pos hk]; exact (by obtain ⟨sl', h1, h2⟩ := h; exact ⟨⟨sl', h1, h2 _ hsO⟩, fun z hz => hl z ((fun x hx => List.mem_of_mem_drop (List.mem_of_mem_drop hx)) z hz)⟩), hq0.og.trans q⟩
      have HF := Lib.hid fin
      clear fin hb hs hl hq0 hc0 hc1 hsO hb0 hs0 q0
      go_enter Try.func32, Try.ntmps32
      go_wp2_with (go_at_call 81; refine HA.out.mono ?_; rintro e w' ⟨rfl, h, q⟩; (have HH := Lib.hid h); (have HQ := Lib.hid q); clear h q)
      go_ret
      obtain ⟨h1, h2, h3⟩ := HF.out _ HH.out HQ.out
      exact ⟨by rw [h1]; rfl, h2, h3⟩
    · have HA := Lib.hid (askedS_unmet a sb l.length sc 82 #[.pointer (some ⟨w.heap.size, 0, none⟩), .pointer (some ⟨w.heap.size + 1, 0, none⟩)] _ (hb.qt hq0) hcf
        (fun w1 q => (text_no a w.heap.size _ l w1 (w.heap.size + 1) most (hc0 w1 q) (hc1 w1 q) (hb.qt (hq0.trans q)) (hs.qt (hq0.trans q)) hl hk)))
      have fin : ∀ w2, Blk w2 a 64 [.bool true, .bool true, .slice sb l.length sc] → Og a ((w.alloc (.cells #[.pointer (some ⟨a, 0, none⟩)] 26)).alloc (.cells #[.int .i64 most] 3)) w2 → textV most (some l) = textV most none ∧ RdO w0 w2 a (textN most (some l)) ∧ Og a w w2 := fun w2 h q =>
        ⟨congrArg str (if_neg hk), by rw [textN, if_neg hk]; exact ⟨_, h⟩, hq0.og.trans q⟩
      have HF := Lib.hid fin
      clear fin hb hs hl hq0 hc0 hc1 hsO hb0 hs0 q0
      go_enter Try.func32, Try.ntmps32
      go_wp2_with (go_at_call 81; refine HA.out.mono ?_; rintro e w' ⟨rfl, h, q⟩; (have HH := Lib.hid h); (have HQ := Lib.hid q); clear h q)
      go_ret
      obtain ⟨h1, h2, h3⟩ := HF.out _ HH.out HQ.out
      exact ⟨by rw [h1]; rfl, h2, h3⟩
set_option maxRecDepth 100000 in
set_option maxHeartbeats 1000000 in
theorem Flag_o (a : Nat) (st : Option (List Nat)) (w0 w : World) (hrO : RdO w0 w a st) (hr : RdA w a st) (x0 y0 : Bool) (s0 : Value) (hb0 : Blk w0 a 64 [.bool x0, .bool y0, s0]) (hs0 : ∃ a n c, s0 = .slice a n c) (q0 : Og a w0 w) : Calls Try.prog 33 #[.pointer (some ⟨a, 0, none⟩)] w fun e w' => e = .returned (.bool (flagV st)) ∧ RdO w0 w' a (flagN st) ∧ Og a w w' := by
  have hmf : ∀ (fn : Fn) (first cap : Array Value) (w : World), (Instr.makeFunc fn first cap).run Try.prog w = .ok (.func fn first cap) w := fun _ _ _ _ => rfl
  have hcf : ∀ args w, (callFunc 84 args).run Try.prog w = .ok (.enter 84 args) w := fun _ _ => by kernel_rfl
  cases st with
  | none => exact (Flag_dead _ w hr.dead).mono (by rintro e w' ⟨rfl, q⟩; obtain ⟨sl, hb⟩ := hr; exact ⟨rfl, ⟨sl, hb.qt q⟩, q.og⟩)
  | some l =>
    clear hr
    obtain ⟨⟨sl, hb, hsO⟩, hl⟩ := hrO
    obtain ⟨sb, sc, rfl⟩ := hsO.len
    have hs := hsO.og hb0 (no_u8 hs0) q0
    have hlt := hb.lt
    have hq0 : Qt w (w.alloc (.cells #[.pointer (some ⟨a, 0, none⟩)] 26)) := (Qt.refl w).alloc _
    have hc0 : ∀ w1, Qt (w.alloc (.cells #[.pointer (some ⟨a, 0, none⟩)] 26)) w1 → w1.cell? ⟨w.heap.size, 0, none⟩ = some (.pointer (some ⟨a, 0, none⟩)) := fun w1 q => (q.cell (p := ⟨w.heap.size, 0, none⟩) (by simp <;> omega)).trans (by simp [go_sem])
    by_cases hk : 1 ≤ l.length ∧ be (l.take 1) < 2
    · have HA := Lib.hid (askedB_met a sb l.length sc 84 #[.pointer (some ⟨w.heap.size, 0, none⟩)] (be (l.take 1) == 1) _ (hb.qt hq0) (fun sl' => Tl (.slice sb l.length sc) l sl' (l.drop 1)) hcf
        (fun w1 q => (flag_yes a w.heap.size _ l w1 (hc0 w1 q) (hb.qt (hq0.trans q)) (hs.qt (hq0.trans q)) hl hk)))
      have fin : ∀ w2, (∃ sl', Blk w2 a 64 [.bool true, .bool false, sl'] ∧ Tl (.slice sb l.length sc) l sl' (l.drop 1)) → Og a (w.alloc (.cells #[.pointer (some ⟨a, 0, none⟩)] 26)) w2 → flagV (some l) = (be (l.take 1) == 1) ∧ RdO w0 w2 a (flagN (some l)) ∧ Og a w w2 := fun w2 h q =>
        ⟨if_pos hk, by rw [flagN, if_pos hk]; exact (by obtain ⟨sl', h1, h2⟩ := h; exact ⟨⟨sl', h1, h2 _ hsO⟩, fun z hz => hl z ((fun x hx => List.mem_of_mem_drop hx) z hz)⟩), hq0.og.trans q⟩
      have HF := Lib.hid fin
      clear fin hb hs hl hq0 hc0 hsO hb0 hs0 q0
      go_enter Try.func33, Try.ntmps33
      go_wp2_with (go_at_call 83; refine HA.out.mono ?_; rintro e w' ⟨rfl, h, q⟩; (have HH := Lib.hid h); (have HQ := Lib.hid q); clear h q)
      go_ret
      obtain ⟨h1, h2, h3⟩ := HF.out _ HH.out HQ.out
      exact ⟨by rw [h1]; rfl, h2, h3⟩
    · have HA := Lib.hid (askedB_unmet a sb l.length sc 84 #[.pointer (some ⟨w.heap.size, 0, none⟩)] _ (hb.qt hq0) hcf
        (fun w1 q => (flag_no a w.heap.size _ l w1 (hc0 w1 q) (hb.qt (hq0.trans q)) (hs.qt (hq0.trans q)) hl hk)))
      have fin : ∀ w2, Blk w2 a 64 [.bool true, .bool true, .slice sb l.length sc] → Og a (w.alloc (.cells #[.pointer (some ⟨a, 0, none⟩)] 26)) w2 → flagV (some l) = flagV none ∧ RdO w0 w2 a (flagN (some l)) ∧ Og a w w2 := fun w2 h q =>
        ⟨if_neg hk, by rw [flagN, if_neg hk]; exact ⟨_, h⟩, hq0.og.trans q⟩
      have HF := Lib.hid fin
      clear fin hb hs hl hq0 hc0 hsO hb0 hs0 q0
      go_enter Try.func33, Try.ntmps33
      go_wp2_with (go_at_call 83; refine HA.out.mono ?_; rintro e w' ⟨rfl, h, q⟩; (have HH := Lib.hid h); (have HQ := Lib.hid q); clear h q)
      go_ret
      obtain ⟨h1, h2, h3⟩ := HF.out _ HH.out HQ.out
      exact ⟨by rw [h1]; rfl, h2, h3⟩
set_option maxRecDepth 100000 in
set_option maxHeartbeats 1000000 in
theorem Count_o (a : Nat) (most : Int) (st : Option (List Nat)) (w0 w : World) (hrO : RdO w0 w a st) (hr : RdA w a st) (x0 y0 : Bool) (s0 : Value) (hb0 : Blk w0 a 64 [.bool x0, .bool y0, s0]) (hs0 : ∃ a n c, s0 = .slice a n c) (q0 : Og a w0 w) : Calls Try.prog 31 #[.pointer (some ⟨a, 0, none⟩), .int .i64 most] w fun e w' => e = .returned (.int .i64 ((cntV most st) : Nat)) ∧ RdO w0 w' a (cntN most st) ∧ Og a w w' := by
  have hmf : ∀ (fn : Fn) (first cap : Array Value) (w : World), (Instr.makeFunc fn first cap).run Try.prog w = .ok (.func fn first cap) w := fun _ _ _ _ => rfl
  have hcf : ∀ args w, (callFunc 79 args).run Try.prog w = .ok (.enter 79 args) w := fun _ _ => by kernel_rfl
  cases st with
  | none => exact (Count_dead _ most w hr.dead).mono (by rintro e w' ⟨rfl, q⟩; obtain ⟨sl, hb⟩ := hr; exact ⟨rfl, ⟨sl, hb.qt q⟩, q.og⟩)
  | some l =>
    clear hr
    obtain ⟨⟨sl, hb, hsO⟩, hl⟩ := hrO
    obtain ⟨sb, sc, rfl⟩ := hsO.len
    have hs := hsO.og hb0 (no_u8 hs0) q0
    have hlt := hb.lt
    have hq0 : Qt w ((w.alloc (.cells #[.pointer (some ⟨a, 0, none⟩)] 26)).alloc (.cells #[.int .i64 most] 3)) := ((Qt.refl w).alloc _).alloc _
    have hc0 : ∀ w1, Qt ((w.alloc (.cells #[.pointer (some ⟨a, 0, none⟩)] 26)).alloc (.cells #[.int .i64 most] 3)) w1 → w1.cell? ⟨w.heap.size, 0, none⟩ = some (.pointer (some ⟨a, 0, none⟩)) := fun w1 q => (q.cell (p := ⟨w.heap.size, 0, none⟩) (by simp <;> omega)).trans (by simp [go_sem])
    have hc1 : ∀ w1, Qt ((w.alloc (.cells #[.pointer (some ⟨a, 0, none⟩)] 26)).alloc (.cells #[.int .i64 most] 3)) w1 → w1.cell? ⟨w.heap.size + 1, 0, none⟩ = some (.int .i64 most) := fun w1 q => (q.cell (p := ⟨w.heap.size + 1, 0, none⟩) (by simp)).trans (by simp [go_sem])
    by_cases hk : 2 ≤ l.length ∧ (be (l.take 2) : Int) ≤ most
    · have HA := Lib.hid (askedI_met a sb l.length sc 79 #[.pointer (some ⟨w.heap.size, 0, none⟩), .pointer (some ⟨w.heap.size + 1, 0, none⟩)] (be (l.take 2) : Nat) _ (hb.qt hq0) (fun sl' => Tl (.slice sb l.length sc) l sl' (l.drop 2)) hcf
        (fun w1 q => (count_yes a w.heap.size _ l w1 (w.heap.size + 1) most (hc0 w1 q) (hc1 w1 q) (hb.qt (hq0.trans q)) (hs.qt (hq0.trans q)) hl hk)))
      have fin : ∀ w2, (∃ sl', Blk w2 a 64 [.bool true, .bool false, sl'] ∧ Tl (.slice sb l.length sc) l sl' (l.drop 2)) → Og a ((w.alloc (.cells #[.pointer (some ⟨a, 0, none⟩)] 26)).alloc (.cells #[.int .i64 most] 3)) w2 → cntV most (some l) = (be (l.take 2) : Nat) ∧ RdO w0 w2 a (cntN most (some l)) ∧ Og a w w2 := fun w2 h q =>
        ⟨if_pos hk, by rw [cntN, if_pos hk]; exact (by obtain ⟨sl', h1, h2⟩ := h; exact ⟨⟨sl', h1, h2 _ hsO⟩, fun z hz => hl z ((fun x hx => List.mem_of_mem_drop hx) z hz)⟩), hq0.og.trans q⟩
      have HF := Lib.hid fin
      clear fin hb hs hl hq0 hc0 hc1 hsO hb0 hs0 q0
      go_enter Try.func31, Try.ntmps31
      go_wp2_with (go_at_call 69; refine HA.out.mono ?_; rintro e w' ⟨rfl, h, q⟩; (have HH := Lib.hid h); (have HQ := Lib.hid q); clear h q)
      go_ret
      obtain ⟨h1, h2, h3⟩ := HF.out _ HH.out HQ.out
      exact ⟨by rw [h1]; rfl, h2, h3⟩
    · have HA := Lib.hid (askedI_unmet a sb l.length sc 79 #[.pointer (some ⟨w.heap.size, 0, none⟩), .pointer (some ⟨w.heap.size + 1, 0, none⟩)] _ (hb.qt hq0) hcf
        (fun w1 q => (count_no a w.heap.size _ l w1 (w.heap.size + 1) most (hc0 w1 q) (hc1 w1 q) (hb.qt (hq0.trans q)) (hs.qt (hq0.trans q)) hl hk)))
      have fin : ∀ w2, Blk w2 a 64 [.bool true, .bool true, .slice sb l.length sc] → Og a ((w.alloc (.cells #[.pointer (some ⟨a, 0, none⟩)] 26)).alloc (.cells #[.int .i64 most] 3)) w2 → cntV most (some l) = cntV most none ∧ RdO w0 w2 a (cntN most (some l)) ∧ Og a w w2 := fun w2 h q =>
        ⟨if_neg hk, by rw [cntN, if_neg hk]; exact ⟨_, h⟩, hq0.og.trans q⟩
      have HF := Lib.hid fin
      clear fin hb hs hl hq0 hc0 hc1 hsO hb0 hs0 q0
      go_enter Try.func31, Try.ntmps31
      go_wp2_with (go_at_call 69; refine HA.out.mono ?_; rintro e w' ⟨rfl, h, q⟩; (have HH := Lib.hid h); (have HQ := Lib.hid q); clear h q)
      go_ret
      obtain ⟨h1, h2, h3⟩ := HF.out _ HH.out HQ.out
      exact ⟨by rw [h1]; rfl, h2, h3⟩
set_option maxRecDepth 100000 in
set_option maxHeartbeats 1000000 in
theorem Left_o (a : Nat) (st : Option (List Nat)) (w0 w : World) (hrO : RdO w0 w a st) (hr : RdA w a st) (x0 y0 : Bool) (s0 : Value) (hb0 : Blk w0 a 64 [.bool x0, .bool y0, s0]) (hs0 : ∃ a n c, s0 = .slice a n c) (q0 : Og a w0 w) : Calls Try.prog 18 #[.pointer (some ⟨a, 0, none⟩)] w fun e w' => e = .returned (.int .i64 ((leftV st) : Nat)) ∧ RdO w0 w' a (leftN st) ∧ Og a w w' := by
  have hmf : ∀ (fn : Fn) (first cap : Array Value) (w : World), (Instr.makeFunc fn first cap).run Try.prog w = .ok (.func fn first cap) w := fun _ _ _ _ => rfl
  have hcf : ∀ args w, (callFunc 70 args).run Try.prog w = .ok (.enter 70 args) w := fun _ _ => by kernel_rfl
  cases st with
  | none => exact (Left_dead _ w hr.dead).mono (by rintro e w' ⟨rfl, q⟩; obtain ⟨sl, hb⟩ := hr; exact ⟨rfl, ⟨sl, hb.qt q⟩, q.og⟩)
  | some l =>
    clear hr
    obtain ⟨⟨sl, hb, hsO⟩, hl⟩ := hrO
    obtain ⟨sb, sc, rfl⟩ := hsO.len
    have hs := hsO.og hb0 (no_u8 hs0) q0
    have hlt := hb.lt
    have hq0 : Qt w (w.alloc (.cells #[.pointer (some ⟨a, 0, none⟩)] 26)) := (Qt.refl w).alloc _
    have hc0 : ∀ w1, Qt (w.alloc (.cells #[.pointer (some ⟨a, 0, none⟩)] 26)) w1 → w1.cell? ⟨w.heap.size, 0, none⟩ = some (.pointer (some ⟨a, 0, none⟩)) := fun w1 q => (q.cell (p := ⟨w.heap.size, 0, none⟩) (by simp <;> omega)).trans (by simp [go_sem])
    by_cases hk : 0 ≤ l.length
    · have HA := Lib.hid (askedI_met a sb l.length sc 70 #[.pointer (some ⟨w.heap.size, 0, none⟩)] (l.length : Nat) _ (hb.qt hq0) (fun sl' => Tl (.slice sb l.length sc) l sl' l) hcf
        (fun w1 q => (left_yes a w.heap.size _ l w1 (hc0 w1 q) (hb.qt (hq0.trans q)) (hs.qt (hq0.trans q)) hl hk)))
      have fin : ∀ w2, (∃ sl', Blk w2 a 64 [.bool true, .bool false, sl'] ∧ Tl (.slice sb l.length sc) l sl' l) → Og a (w.alloc (.cells #[.pointer (some ⟨a, 0, none⟩)] 26)) w2 → leftV (some l) = (l.length : Nat) ∧ RdO w0 w2 a (leftN (some l)) ∧ Og a w w2 := fun w2 h q =>
        ⟨(if_pos hk : (if 0 ≤ l.length then l.length else 0) = l.length), by rw [leftN, if_pos hk]; exact (by obtain ⟨sl', h1, h2⟩ := h; exact ⟨⟨sl', h1, h2 _ hsO⟩, fun z hz => hl z ((fun _ hx => hx) z hz)⟩), hq0.og.trans q⟩
      have HF := Lib.hid fin
      clear fin hb hs hl hq0 hc0 hsO hb0 hs0 q0
      go_enter Try.func18, Try.ntmps18
      go_wp2_with (go_at_call 69; refine HA.out.mono ?_; rintro e w' ⟨rfl, h, q⟩; (have HH := Lib.hid h); (have HQ := Lib.hid q); clear h q)
      go_ret
      obtain ⟨h1, h2, h3⟩ := HF.out _ HH.out HQ.out
      exact ⟨by rw [h1]; rfl, h2, h3⟩
    · have HA := Lib.hid (askedI_unmet a sb l.length sc 70 #[.pointer (some ⟨w.heap.size, 0, none⟩)] _ (hb.qt hq0) hcf
        (fun w1 q => (left_no a w.heap.size _ l w1 (hc0 w1 q) (hb.qt (hq0.trans q)) (hs.qt (hq0.trans q)) hl hk)))
      have fin : ∀ w2, Blk w2 a 64 [.bool true, .bool true, .slice sb l.length sc] → Og a (w.alloc (.cells #[.pointer (some ⟨a, 0, none⟩)] 26)) w2 → leftV (some l) = leftV none ∧ RdO w0 w2 a (leftN (some l)) ∧ Og a w w2 := fun w2 h q =>
        ⟨absurd (Nat.zero_le _) hk, by rw [leftN, if_neg hk]; exact ⟨_, h⟩, hq0.og.trans q⟩
      have HF := Lib.hid fin
      clear fin hb hs hl hq0 hc0 hsO hb0 hs0 q0
      go_enter Try.func18, Try.ntmps18
      go_wp2_with (go_at_call 69; refine HA.out.mono ?_; rintro e w' ⟨rfl, h, q⟩; (have HH := Lib.hid h); (have HQ := Lib.hid q); clear h q)
      go_ret
      obtain ⟨h1, h2, h3⟩ := HF.out _ HH.out HQ.out
      exact ⟨by rw [h1]; rfl, h2, h3⟩
/-- A reader whose bytes lay in an elder world; since then nothing that lay there was turned but its own block. -/
structure RO (w0 w : World) (a : Nat) (st : Option (List Nat)) : Prop where
  o : RdO w0 w a st
  b0 : ∃ x y s, Blk w0 a 64 [.bool x, .bool y, s] ∧ ∃ a n c, s = .slice a n c
  q : Og a w0 w
  ok : StOk st
theorem RO.rd {w0 w : World} {a : Nat} {st : Option (List Nat)} (h : RO w0 w a st) : RdA w a st := by
  obtain ⟨x, y, s, hb, hs⟩ := h.b0
  exact h.o.fin hb hs h.q
theorem RO.lt {w0 w : World} {a : Nat} {st : Option (List Nat)} (h : RO w0 w a st) : a < w0.heap.size := by
  obtain ⟨x, y, s, hb, hs⟩ := h.b0
  exact hb.lt
/-- Others, that were made since, are turned. -/
theorem RO.gs {w0 w w' : World} {a : Nat} {st : Option (List Nat)} {S : Nat → Prop} (h : RO w0 w a st) (g : Gs S w w') (hS : ∀ k, S k → w0.heap.size ≤ k) : RO w0 w' a st := by
  have hlt := h.lt
  refine ⟨h.o.gs g (fun hs => by have := hS a hs; omega), h.b0, ?_, h.ok⟩
  refine ⟨g.os.trans h.q.os, g.tape.trans h.q.tape, g.output.trans h.q.output, Nat.le_trans h.q.size g.size, fun k hk hn => ?_⟩
  rw [g.block k (Nat.lt_of_lt_of_le hk h.q.size) (fun hs => by have := hS k hs; omega)]
  exact h.q.block k hk hn
theorem RO.qt {w0 w w' : World} {a : Nat} {st : Option (List Nat)} (h : RO w0 w a st) (q : Qt w w') : RO w0 w' a st :=
  h.gs (S := fun _ => False) (Gs.of_qt q) (fun _ h => h.elim)
theorem RO.step {w0 w w' : World} {a : Nat} {st st' : Option (List Nat)} (h : RO w0 w a st) (ho : RdO w0 w' a st') (q : Og a w w') (hk : StOk st') : RO w0 w' a st' :=
  ⟨ho, h.b0, h.q.trans q, hk⟩
/-- A writer that was made since. -/
def WO (w0 w : World) (a : Nat) (st : Option (List Nat)) : Prop := ∃ S, WrA S w a st ∧ ∀ k, S k → w0.heap.size ≤ k
theorem WO.qt {w0 w w' : World} {a : Nat} {st : Option (List Nat)} (h : WO w0 w a st) (q : Qt w w') : WO w0 w' a st := by
  obtain ⟨S, h1, h2⟩ := h
  exact ⟨S, h1.qt q, h2⟩
theorem WO.og {w0 w w' : World} {a r : Nat} {st : Option (List Nat)} (h : WO w0 w a st) (q : Og r w w') (hr : r < w0.heap.size) : WO w0 w' a st := by
  obtain ⟨S, h1, h2⟩ := h
  exact ⟨S, h1.gs (R := fun k => k = r) (Gs.of_og q rfl) (fun k hk e => by have := h2 k hk; omega), h2⟩
theorem U8_r (a : Nat) (st : Option (List Nat)) (w0 w : World) (hr : RO w0 w a st) : Calls Try.prog 22 #[.pointer (some ⟨a, 0, none⟩)] w fun e w' => e = .returned (.int .i64 (num 1 st : Nat)) ∧ RO w0 w' a (nxt 1 st) ∧ Og a w w' := by
  obtain ⟨x, y, s, hb, hs⟩ := hr.b0
  exact (U8_o a st w0 w hr.o hr.rd x y s hb hs hr.q).mono (by rintro e w' ⟨rfl, h, g⟩; exact ⟨rfl, hr.step h g (hr.ok.nxt 1), g⟩)
theorem U16_r (a : Nat) (st : Option (List Nat)) (w0 w : World) (hr : RO w0 w a st) : Calls Try.prog 35 #[.pointer (some ⟨a, 0, none⟩)] w fun e w' => e = .returned (.int .i64 (num 2 st : Nat)) ∧ RO w0 w' a (nxt 2 st) ∧ Og a w w' := by
  obtain ⟨x, y, s, hb, hs⟩ := hr.b0
  exact (U16_o a st w0 w hr.o hr.rd x y s hb hs hr.q).mono (by rintro e w' ⟨rfl, h, g⟩; exact ⟨rfl, hr.step h g (hr.ok.nxt 2), g⟩)
theorem U32_r (a : Nat) (st : Option (List Nat)) (w0 w : World) (hr : RO w0 w a st) : Calls Try.prog 36 #[.pointer (some ⟨a, 0, none⟩)] w fun e w' => e = .returned (.int .i64 (num 4 st : Nat)) ∧ RO w0 w' a (nxt 4 st) ∧ Og a w w' := by
  obtain ⟨x, y, s, hb, hs⟩ := hr.b0
  exact (U32_o a st w0 w hr.o hr.rd x y s hb hs hr.q).mono (by rintro e w' ⟨rfl, h, g⟩; exact ⟨rfl, hr.step h g (hr.ok.nxt 4), g⟩)
theorem U64_r (a : Nat) (st : Option (List Nat)) (w0 w : World) (hr : RO w0 w a st) : Calls Try.prog 37 #[.pointer (some ⟨a, 0, none⟩)] w fun e w' => e = .returned (.int .u64 (num 8 st : Nat)) ∧ RO w0 w' a (nxt 8 st) ∧ Og a w w' := by
  obtain ⟨x, y, s, hb, hs⟩ := hr.b0
  exact (U64_o a st w0 w hr.o hr.rd x y s hb hs hr.q).mono (by rintro e w' ⟨rfl, h, g⟩; exact ⟨rfl, hr.step h g (hr.ok.nxt 8), g⟩)
theorem I64_r (a : Nat) (st : Option (List Nat)) (w0 w : World) (hr : RO w0 w a st) : Calls Try.prog 38 #[.pointer (some ⟨a, 0, none⟩)] w fun e w' => e = .returned (.int .i64 (wrap64 (num 8 st : Nat))) ∧ RO w0 w' a (nxt 8 st) ∧ Og a w w' := by
  obtain ⟨x, y, s, hb, hs⟩ := hr.b0
  exact (I64_o a st w0 w hr.o hr.rd x y s hb hs hr.q).mono (by rintro e w' ⟨rfl, h, g⟩; exact ⟨rfl, hr.step h g (hr.ok.nxt 8), g⟩)
theorem Hash_r (a : Nat) (st : Option (List Nat)) (w0 w : World) (hr : RO w0 w a st) : Calls Try.prog 39 #[.pointer (some ⟨a, 0, none⟩)] w fun e w' => e = .returned (.agg (u8s (hshV st)).toArray) ∧ RO w0 w' a (nxt 32 st) ∧ Og a w w' := by
  obtain ⟨x, y, s, hb, hs⟩ := hr.b0
  exact (Hash_o a st w0 w hr.o hr.rd x y s hb hs hr.q).mono (by rintro e w' ⟨rfl, h, g⟩; exact ⟨rfl, hr.step h g (hr.ok.nxt 32), g⟩)
theorem Raw_r (a : Nat) (n : Int) (st : Option (List Nat)) (w0 w : World) (hr : RO w0 w a st) : Calls Try.prog 23 #[.pointer (some ⟨a, 0, none⟩), .int .i64 n] w fun e w' => ∃ r, e = .returned r ∧ OQ w' w.heap.size 1 r (rawB n st).length (u8s (rawB n st)) ∧ RO w0 w' a (rawN n st) ∧ Og a w w' := by
  obtain ⟨x, y, s, hb, hs⟩ := hr.b0
  exact (Raw_o a n st w0 w hr.o hr.rd x y s hb hs hr.q).mono (by rintro e w' ⟨r, rfl, ho, h, g⟩; exact ⟨r, rfl, ho, hr.step h g (hr.ok.next ⟨0, n, 0, [], [], []⟩ 6), g⟩)
theorem Text_r (a : Nat) (n : Int) (st : Option (List Nat)) (w0 w : World) (hr : RO w0 w a st) : Calls Try.prog 32 #[.pointer (some ⟨a, 0, none⟩), .int .i64 n] w fun e w' => e = .returned (.string (textV n st)) ∧ RO w0 w' a (textN n st) ∧ Og a w w' := by
  obtain ⟨x, y, s, hb, hs⟩ := hr.b0
  exact (Text_o a n st w0 w hr.o hr.rd x y s hb hs hr.q).mono (by rintro e w' ⟨rfl, h, g⟩; exact ⟨rfl, hr.step h g (hr.ok.next ⟨0, n, 0, [], [], []⟩ 7), g⟩)
theorem Flag_r (a : Nat) (st : Option (List Nat)) (w0 w : World) (hr : RO w0 w a st) : Calls Try.prog 33 #[.pointer (some ⟨a, 0, none⟩)] w fun e w' => e = .returned (.bool (flagV st)) ∧ RO w0 w' a (flagN st) ∧ Og a w w' := by
  obtain ⟨x, y, s, hb, hs⟩ := hr.b0
  exact (Flag_o a st w0 w hr.o hr.rd x y s hb hs hr.q).mono (by rintro e w' ⟨rfl, h, g⟩; exact ⟨rfl, hr.step h g (hr.ok.next ⟨0, 0, 0, [], [], []⟩ 8), g⟩)
theorem Count_r (a : Nat) (n : Int) (st : Option (List Nat)) (w0 w : World) (hr : RO w0 w a st) : Calls Try.prog 31 #[.pointer (some ⟨a, 0, none⟩), .int .i64 n] w fun e w' => e = .returned (.int .i64 (cntV n st : Nat)) ∧ RO w0 w' a (cntN n st) ∧ Og a w w' := by
  obtain ⟨x, y, s, hb, hs⟩ := hr.b0
  exact (Count_o a n st w0 w hr.o hr.rd x y s hb hs hr.q).mono (by rintro e w' ⟨rfl, h, g⟩; exact ⟨rfl, hr.step h g (hr.ok.next ⟨0, n, 0, [], [], []⟩ 9), g⟩)
theorem Left_r (a : Nat) (st : Option (List Nat)) (w0 w : World) (hr : RO w0 w a st) : Calls Try.prog 18 #[.pointer (some ⟨a, 0, none⟩)] w fun e w' => e = .returned (.int .i64 (leftV st : Nat)) ∧ RO w0 w' a (st) ∧ Og a w w' := by
  obtain ⟨x, y, s, hb, hs⟩ := hr.b0
  exact (Left_o a st w0 w hr.o hr.rd x y s hb hs hr.q).mono (by rintro e w' ⟨rfl, h, g⟩; rw [leftN_id] at h; exact ⟨rfl, hr.step h g (hr.ok), g⟩)
theorem wU8_r (a r : Nat) (st str : Option (List Nat)) (w0 w : World) (n : Int) (h0 : -9223372036854775808 ≤ n) (h1 : n < 9223372036854775808) (hW : WO w0 w a st) (hr : RO w0 w r str) (hl : lenO st + (1) ≤ 140737488355328) :
    Calls Try.prog 53 #[.pointer (some ⟨a, 0, none⟩), .int .i64 n] w fun e w' => e = .returned (.tuple #[]) ∧ WO w0 w' a (wBel 1 n st) ∧ RO w0 w' r str ∧ ∃ S, Gs S w w' ∧ ∀ k, S k → w0.heap.size ≤ k := by
  obtain ⟨S, h, h2⟩ := hW
  refine (wU8_any S a n st w h h0 h1 (by omega)).mono ?_
  rintro e w' ⟨rfl, hw, hg⟩
  refine ⟨rfl, ⟨_, hw, fun k hk => ?_⟩, hr.gs hg h2, S, hg, h2⟩
  rcases hk with hk | ⟨hk, _⟩
  · exact h2 k hk
  · exact Nat.le_trans hr.q.size hk
theorem wU16_r (a r : Nat) (st str : Option (List Nat)) (w0 w : World) (n : Int) (h0 : -9223372036854775808 ≤ n) (h1 : n < 9223372036854775808) (hW : WO w0 w a st) (hr : RO w0 w r str) (hl : lenO st + (2) ≤ 140737488355328) :
    Calls Try.prog 28 #[.pointer (some ⟨a, 0, none⟩), .int .i64 n] w fun e w' => e = .returned (.tuple #[]) ∧ WO w0 w' a (wBel 2 n st) ∧ RO w0 w' r str ∧ ∃ S, Gs S w w' ∧ ∀ k, S k → w0.heap.size ≤ k := by
  obtain ⟨S, h, h2⟩ := hW
  refine (wU16_any S a n st w h h0 h1 (by omega)).mono ?_
  rintro e w' ⟨rfl, hw, hg⟩
  refine ⟨rfl, ⟨_, hw, fun k hk => ?_⟩, hr.gs hg h2, S, hg, h2⟩
  rcases hk with hk | ⟨hk, _⟩
  · exact h2 k hk
  · exact Nat.le_trans hr.q.size hk
theorem wU32_r (a r : Nat) (st str : Option (List Nat)) (w0 w : World) (n : Int) (h0 : -9223372036854775808 ≤ n) (h1 : n < 9223372036854775808) (hW : WO w0 w a st) (hr : RO w0 w r str) (hl : lenO st + (4) ≤ 140737488355328) :
    Calls Try.prog 54 #[.pointer (some ⟨a, 0, none⟩), .int .i64 n] w fun e w' => e = .returned (.tuple #[]) ∧ WO w0 w' a (wBel 4 n st) ∧ RO w0 w' r str ∧ ∃ S, Gs S w w' ∧ ∀ k, S k → w0.heap.size ≤ k := by
  obtain ⟨S, h, h2⟩ := hW
  refine (wU32_any S a n st w h h0 h1 (by omega)).mono ?_
  rintro e w' ⟨rfl, hw, hg⟩
  refine ⟨rfl, ⟨_, hw, fun k hk => ?_⟩, hr.gs hg h2, S, hg, h2⟩
  rcases hk with hk | ⟨hk, _⟩
  · exact h2 k hk
  · exact Nat.le_trans hr.q.size hk
theorem wU64_r (a r : Nat) (st str : Option (List Nat)) (w0 w : World) (n : Nat) (h1 : n < 18446744073709551616) (hW : WO w0 w a st) (hr : RO w0 w r str) (hl : lenO st + (8) ≤ 140737488355328) :
    Calls Try.prog 55 #[.pointer (some ⟨a, 0, none⟩), .int .u64 (n : Int)] w fun e w' => e = .returned (.tuple #[]) ∧ WO w0 w' a (st.map (· ++ beB 8 n)) ∧ RO w0 w' r str ∧ ∃ S, Gs S w w' ∧ ∀ k, S k → w0.heap.size ≤ k := by
  obtain ⟨S, h, h2⟩ := hW
  refine (wU64_any S a n st w h h1 (by omega)).mono ?_
  rintro e w' ⟨rfl, hw, hg⟩
  refine ⟨rfl, ⟨_, hw, fun k hk => ?_⟩, hr.gs hg h2, S, hg, h2⟩
  rcases hk with hk | ⟨hk, _⟩
  · exact h2 k hk
  · exact Nat.le_trans hr.q.size hk
theorem wI64_r (a r : Nat) (st str : Option (List Nat)) (w0 w : World) (n : Nat) (h1 : n < 18446744073709551616) (hW : WO w0 w a st) (hr : RO w0 w r str) (hl : lenO st + (8) ≤ 140737488355328) :
    Calls Try.prog 56 #[.pointer (some ⟨a, 0, none⟩), .int .i64 (wrap64 (n : Int))] w fun e w' => e = .returned (.tuple #[]) ∧ WO w0 w' a (st.map (· ++ beB 8 n)) ∧ RO w0 w' r str ∧ ∃ S, Gs S w w' ∧ ∀ k, S k → w0.heap.size ≤ k := by
  obtain ⟨S, h, h2⟩ := hW
  refine (wI64_any S a n st w h h1 (by omega)).mono ?_
  rintro e w' ⟨rfl, hw, hg⟩
  refine ⟨rfl, ⟨_, hw, fun k hk => ?_⟩, hr.gs hg h2, S, hg, h2⟩
  rcases hk with hk | ⟨hk, _⟩
  · exact h2 k hk
  · exact Nat.le_trans hr.q.size hk
theorem wRaw_r (a r : Nat) (st str : Option (List Nat)) (w0 w : World) (v : Value) (b : List Nat) (hs : Rd w v b.length (u8s b)) (h8 : ∀ x ∈ b, x < 256) (hW : WO w0 w a st) (hr : RO w0 w r str) (hl : lenO st + (b.length) ≤ 140737488355328) :
    Calls Try.prog 24 #[.pointer (some ⟨a, 0, none⟩), v] w fun e w' => e = .returned (.tuple #[]) ∧ WO w0 w' a (st.map (· ++ b)) ∧ RO w0 w' r str ∧ ∃ S, Gs S w w' ∧ ∀ k, S k → w0.heap.size ≤ k := by
  obtain ⟨S, h, h2⟩ := hW
  refine (wRaw_any S a v b st w h hs h8 (by omega)).mono ?_
  rintro e w' ⟨rfl, hw, hg⟩
  refine ⟨rfl, ⟨_, hw, fun k hk => ?_⟩, hr.gs hg h2, S, hg, h2⟩
  rcases hk with hk | ⟨hk, _⟩
  · exact h2 k hk
  · exact Nat.le_trans hr.q.size hk
theorem wHash_r (a r : Nat) (st str : Option (List Nat)) (w0 w : World) (g : List Nat) (hh : g.length = 32) (h8 : ∀ x ∈ g, x < 256) (hW : WO w0 w a st) (hr : RO w0 w r str) (hl : lenO st + (32) ≤ 140737488355328) :
    Calls Try.prog 57 #[.pointer (some ⟨a, 0, none⟩), .agg (u8s g).toArray] w fun e w' => e = .returned (.tuple #[]) ∧ WO w0 w' a (st.map (· ++ g)) ∧ RO w0 w' r str ∧ ∃ S, Gs S w w' ∧ ∀ k, S k → w0.heap.size ≤ k := by
  obtain ⟨S, h, h2⟩ := hW
  refine (wHash_any S a g st w h hh h8 (by omega)).mono ?_
  rintro e w' ⟨rfl, hw, hg⟩
  refine ⟨rfl, ⟨_, hw, fun k hk => ?_⟩, hr.gs hg h2, S, hg, h2⟩
  rcases hk with hk | ⟨hk, _⟩
  · exact h2 k hk
  · exact Nat.le_trans hr.q.size hk
theorem wText_r (a r : Nat) (st str : Option (List Nat)) (w0 w : World) (b : List Nat) (h8 : ∀ x ∈ b, x < 256) (hb9 : b.length ≤ 140737488351232) (hW : WO w0 w a st) (hr : RO w0 w r str) (hl : lenO st + (2 + b.length) ≤ 140737488355328) :
    Calls Try.prog 29 #[.pointer (some ⟨a, 0, none⟩), .string (Go.Proofs.Ytajkmblcphdnbaa.str b)] w fun e w' => e = .returned (.tuple #[]) ∧ WO w0 w' a ((wBel 2 (b.length : Int) st).map (· ++ b)) ∧ RO w0 w' r str ∧ ∃ S, Gs S w w' ∧ ∀ k, S k → w0.heap.size ≤ k := by
  obtain ⟨S, h, h2⟩ := hW
  refine (wText_any S a b st w h h8 hb9 (by omega)).mono ?_
  rintro e w' ⟨rfl, hw, hg⟩
  refine ⟨rfl, ⟨_, hw, fun k hk => ?_⟩, hr.gs hg h2, S, hg, h2⟩
  rcases hk with hk | ⟨hk, _⟩
  · exact h2 k hk
  · exact Nat.le_trans hr.q.size hk
theorem wFlag_r (a r : Nat) (st str : Option (List Nat)) (w0 w : World) (is : Bool) (hW : WO w0 w a st) (hr : RO w0 w r str) (hl : lenO st + (1) ≤ 140737488355328) :
    Calls Try.prog 30 #[.pointer (some ⟨a, 0, none⟩), .bool is] w fun e w' => e = .returned (.tuple #[]) ∧ WO w0 w' a (wBel 1 (if is then 1 else 0) st) ∧ RO w0 w' r str ∧ ∃ S, Gs S w w' ∧ ∀ k, S k → w0.heap.size ≤ k := by
  obtain ⟨S, h, h2⟩ := hW
  refine (wFlag_any S a is st w h (by omega)).mono ?_
  rintro e w' ⟨rfl, hw, hg⟩
  refine ⟨rfl, ⟨_, hw, fun k hk => ?_⟩, hr.gs hg h2, S, hg, h2⟩
  rcases hk with hk | ⟨hk, _⟩
  · exact h2 k hk
  · exact Nat.le_trans hr.q.size hk
theorem raw_le (n : Int) (st : Option (List Nat)) : (rawB n st).length ≤ lenO st := by
  cases st with
  | none => exact Nat.zero_le _
  | some l =>
    simp only [rawB, lenO]
    split
    · rw [List.length_take]; omega
    · exact Nat.zero_le _
theorem raw_8 {n : Int} {st : Option (List Nat)} (h : StOk st) : ∀ z ∈ rawB n st, z < 256 := by
  cases st with
  | none => intro z hz; cases hz
  | some l =>
    simp only [rawB]
    split
    · exact fun z hz => (h l rfl).2 z (List.mem_of_mem_take hz)
    · intro z hz; cases hz
theorem text_le (n : Int) (st : Option (List Nat)) : (textB n st).length ≤ lenO st := by
  cases st with
  | none => exact Nat.zero_le _
  | some l =>
    simp only [textB, lenO]
    split
    · rw [List.length_take, List.length_drop]; omega
    · exact Nat.zero_le _
theorem text_8 {n : Int} {st : Option (List Nat)} (h : StOk st) : ∀ z ∈ textB n st, z < 256 := by
  cases st with
  | none => intro z hz; cases hz
  | some l =>
    simp only [textB]
    split
    · exact fun z hz => (h l rfl).2 z (List.mem_of_mem_drop (List.mem_of_mem_take hz))
    · intro z hz; cases hz
set_option maxRecDepth 100000 in
set_option maxHeartbeats 1000000 in
theorem again_0 (a q : Nat) (x : PutD) (bv : Value) (st wst : Option (List Nat)) (w0 w : World) (hr : RO w0 w a st) (hW : WO w0 w q wst) (hx : x.Ok) (hl : lenO wst + 40 + lenO st ≤ 140737488351232) (hk : x.what % 10 = 0) :
    Calls Try.prog 19 #[.pointer (some ⟨a, 0, none⟩), .pointer (some ⟨q, 0, none⟩), .agg (putC x bv).toArray] w fun e w' => e = .returned (.tuple #[]) ∧ RO w0 w' a (nextK x st 0) ∧ WO w0 w' q (agW x st wst 0) := by
  have hq0 : Qt w (w.alloc (.cells (putC x bv).toArray 39)) := (Qt.refl w).alloc _
  have hblk : Blk (w.alloc (.cells (putC x bv).toArray 39)) w.heap.size 39 (putC x bv) := heap_alloc_new w _
  have HP := Lib.hid (fun w => pick_any x.what 10 w hx.w0 hx.w1 (by omega) (by omega))
  have hk' : Value.int .i64 (x.what % 10) = .int .i64 0 := by rw [hk]
  have HK := Lib.hid hk'
  have c0 : (w.alloc (.cells (putC x bv).toArray 39)).cell? ⟨w.heap.size, 0, none⟩ = some (.int .i64 x.what) := hblk.cell 0
  have c1 : (w.alloc (.cells (putC x bv).toArray 39)).cell? ⟨w.heap.size, 1, none⟩ = some (.int .i64 x.n) := hblk.cell 1
  have HR0 := Lib.hid (hr.qt hq0)
  have HW0 := Lib.hid (hW.qt hq0)
  have HLT := Lib.hid hr.lt
  have HRC := Lib.hid (U8_r a st w0 _ HR0.out)
  clear hr hW hx hq0 hblk hk hk'
  go_enter Try.func19, Try.ntmps19
  go_wp2_with (first
    | (go_at_call 26; refine (HP.out _).mono ?_; rintro e w1 ⟨rfl, rfl⟩; rw [HK.out])
    | (go_at_call 22; refine HRC.out.mono ?_; rintro e w1 ⟨rfl, hr2, g2⟩; (have HW1 := Lib.hid (HW0.out.og g2 HLT.out)); (have HC := Lib.hid (wU8_r q a wst _ w0 w1 (num 1 st : Nat) (by omega) (by have := HR0.out.ok.num 1; omega) HW1.out hr2 (by have h1 := raw_le x.n st; have h2 := text_le x.n st; omega))); clear hr2 g2)
    | (go_at_call 53; refine HC.out.mono ?_; rintro e w2 ⟨rfl, hw3, hr3, _⟩; (have HW3 := Lib.hid hw3); (have HR3 := Lib.hid hr3); clear hw3 hr3))
  go_end0
  exact ⟨rfl, HR3.out, HW3.out⟩
set_option maxRecDepth 100000 in
set_option maxHeartbeats 1000000 in
theorem again_1 (a q : Nat) (x : PutD) (bv : Value) (st wst : Option (List Nat)) (w0 w : World) (hr : RO w0 w a st) (hW : WO w0 w q wst) (hx : x.Ok) (hl : lenO wst + 40 + lenO st ≤ 140737488351232) (hk : x.what % 10 = 1) :
    Calls Try.prog 19 #[.pointer (some ⟨a, 0, none⟩), .pointer (some ⟨q, 0, none⟩), .agg (putC x bv).toArray] w fun e w' => e = .returned (.tuple #[]) ∧ RO w0 w' a (nextK x st 1) ∧ WO w0 w' q (agW x st wst 1) := by
  have hq0 : Qt w (w.alloc (.cells (putC x bv).toArray 39)) := (Qt.refl w).alloc _
  have hblk : Blk (w.alloc (.cells (putC x bv).toArray 39)) w.heap.size 39 (putC x bv) := heap_alloc_new w _
  have HP := Lib.hid (fun w => pick_any x.what 10 w hx.w0 hx.w1 (by omega) (by omega))
  have hk' : Value.int .i64 (x.what % 10) = .int .i64 1 := by rw [hk]
  have HK := Lib.hid hk'
  have c0 : (w.alloc (.cells (putC x bv).toArray 39)).cell? ⟨w.heap.size, 0, none⟩ = some (.int .i64 x.what) := hblk.cell 0
  have c1 : (w.alloc (.cells (putC x bv).toArray 39)).cell? ⟨w.heap.size, 1, none⟩ = some (.int .i64 x.n) := hblk.cell 1
  have HR0 := Lib.hid (hr.qt hq0)
  have HW0 := Lib.hid (hW.qt hq0)
  have HLT := Lib.hid hr.lt
  have HRC := Lib.hid (U16_r a st w0 _ HR0.out)
  clear hr hW hx hq0 hblk hk hk'
  go_enter Try.func19, Try.ntmps19
  go_wp2_with (first
    | (go_at_call 26; refine (HP.out _).mono ?_; rintro e w1 ⟨rfl, rfl⟩; rw [HK.out])
    | (go_at_call 35; refine HRC.out.mono ?_; rintro e w1 ⟨rfl, hr2, g2⟩; (have HW1 := Lib.hid (HW0.out.og g2 HLT.out)); (have HC := Lib.hid (wU16_r q a wst _ w0 w1 (num 2 st : Nat) (by omega) (by have := HR0.out.ok.num 2; omega) HW1.out hr2 (by have h1 := raw_le x.n st; have h2 := text_le x.n st; omega))); clear hr2 g2)
    | (go_at_call 28; refine HC.out.mono ?_; rintro e w2 ⟨rfl, hw3, hr3, _⟩; (have HW3 := Lib.hid hw3); (have HR3 := Lib.hid hr3); clear hw3 hr3))
  go_end0
  exact ⟨rfl, HR3.out, HW3.out⟩
set_option maxRecDepth 100000 in
set_option maxHeartbeats 1000000 in
theorem again_2 (a q : Nat) (x : PutD) (bv : Value) (st wst : Option (List Nat)) (w0 w : World) (hr : RO w0 w a st) (hW : WO w0 w q wst) (hx : x.Ok) (hl : lenO wst + 40 + lenO st ≤ 140737488351232) (hk : x.what % 10 = 2) :
    Calls Try.prog 19 #[.pointer (some ⟨a, 0, none⟩), .pointer (some ⟨q, 0, none⟩), .agg (putC x bv).toArray] w fun e w' => e = .returned (.tuple #[]) ∧ RO w0 w' a (nextK x st 2) ∧ WO w0 w' q (agW x st wst 2) := by
  have hq0 : Qt w (w.alloc (.cells (putC x bv).toArray 39)) := (Qt.refl w).alloc _
  have hblk : Blk (w.alloc (.cells (putC x bv).toArray 39)) w.heap.size 39 (putC x bv) := heap_alloc_new w _
  have HP := Lib.hid (fun w => pick_any x.what 10 w hx.w0 hx.w1 (by omega) (by omega))
  have hk' : Value.int .i64 (x.what % 10) = .int .i64 2 := by rw [hk]
  have HK := Lib.hid hk'
  have c0 : (w.alloc (.cells (putC x bv).toArray 39)).cell? ⟨w.heap.size, 0, none⟩ = some (.int .i64 x.what) := hblk.cell 0
  have c1 : (w.alloc (.cells (putC x bv).toArray 39)).cell? ⟨w.heap.size, 1, none⟩ = some (.int .i64 x.n) := hblk.cell 1
  have HR0 := Lib.hid (hr.qt hq0)
  have HW0 := Lib.hid (hW.qt hq0)
  have HLT := Lib.hid hr.lt
  have HRC := Lib.hid (U32_r a st w0 _ HR0.out)
  clear hr hW hx hq0 hblk hk hk'
  go_enter Try.func19, Try.ntmps19
  go_wp2_with (first
    | (go_at_call 26; refine (HP.out _).mono ?_; rintro e w1 ⟨rfl, rfl⟩; rw [HK.out])
    | (go_at_call 36; refine HRC.out.mono ?_; rintro e w1 ⟨rfl, hr2, g2⟩; (have HW1 := Lib.hid (HW0.out.og g2 HLT.out)); (have HC := Lib.hid (wU32_r q a wst _ w0 w1 (num 4 st : Nat) (by omega) (by have := HR0.out.ok.num 4; omega) HW1.out hr2 (by have h1 := raw_le x.n st; have h2 := text_le x.n st; omega))); clear hr2 g2)
    | (go_at_call 54; refine HC.out.mono ?_; rintro e w2 ⟨rfl, hw3, hr3, _⟩; (have HW3 := Lib.hid hw3); (have HR3 := Lib.hid hr3); clear hw3 hr3))
  go_end0
  exact ⟨rfl, HR3.out, HW3.out⟩
set_option maxRecDepth 100000 in
set_option maxHeartbeats 1000000 in
theorem again_3 (a q : Nat) (x : PutD) (bv : Value) (st wst : Option (List Nat)) (w0 w : World) (hr : RO w0 w a st) (hW : WO w0 w q wst) (hx : x.Ok) (hl : lenO wst + 40 + lenO st ≤ 140737488351232) (hk : x.what % 10 = 3) :
    Calls Try.prog 19 #[.pointer (some ⟨a, 0, none⟩), .pointer (some ⟨q, 0, none⟩), .agg (putC x bv).toArray] w fun e w' => e = .returned (.tuple #[]) ∧ RO w0 w' a (nextK x st 3) ∧ WO w0 w' q (agW x st wst 3) := by
  have hq0 : Qt w (w.alloc (.cells (putC x bv).toArray 39)) := (Qt.refl w).alloc _
  have hblk : Blk (w.alloc (.cells (putC x bv).toArray 39)) w.heap.size 39 (putC x bv) := heap_alloc_new w _
  have HP := Lib.hid (fun w => pick_any x.what 10 w hx.w0 hx.w1 (by omega) (by omega))
  have hk' : Value.int .i64 (x.what % 10) = .int .i64 3 := by rw [hk]
  have HK := Lib.hid hk'
  have c0 : (w.alloc (.cells (putC x bv).toArray 39)).cell? ⟨w.heap.size, 0, none⟩ = some (.int .i64 x.what) := hblk.cell 0
  have c1 : (w.alloc (.cells (putC x bv).toArray 39)).cell? ⟨w.heap.size, 1, none⟩ = some (.int .i64 x.n) := hblk.cell 1
  have HR0 := Lib.hid (hr.qt hq0)
  have HW0 := Lib.hid (hW.qt hq0)
  have HLT := Lib.hid hr.lt
  have HRC := Lib.hid (U64_r a st w0 _ HR0.out)
  clear hr hW hx hq0 hblk hk hk'
  go_enter Try.func19, Try.ntmps19
  go_wp2_with (first
    | (go_at_call 26; refine (HP.out _).mono ?_; rintro e w1 ⟨rfl, rfl⟩; rw [HK.out])
    | (go_at_call 37; refine HRC.out.mono ?_; rintro e w1 ⟨rfl, hr2, g2⟩; (have HW1 := Lib.hid (HW0.out.og g2 HLT.out)); (have HC := Lib.hid (wU64_r q a wst _ w0 w1 (num 8 st) (by have := HR0.out.ok.num 8; omega) HW1.out hr2 (by have h1 := raw_le x.n st; have h2 := text_le x.n st; omega))); clear hr2 g2)
    | (go_at_call 55; refine HC.out.mono ?_; rintro e w2 ⟨rfl, hw3, hr3, _⟩; (have HW3 := Lib.hid hw3); (have HR3 := Lib.hid hr3); clear hw3 hr3))
  go_end0
  exact ⟨rfl, HR3.out, HW3.out⟩
set_option maxRecDepth 100000 in
set_option maxHeartbeats 1000000 in
theorem again_4 (a q : Nat) (x : PutD) (bv : Value) (st wst : Option (List Nat)) (w0 w : World) (hr : RO w0 w a st) (hW : WO w0 w q wst) (hx : x.Ok) (hl : lenO wst + 40 + lenO st ≤ 140737488351232) (hk : x.what % 10 = 4) :
    Calls Try.prog 19 #[.pointer (some ⟨a, 0, none⟩), .pointer (some ⟨q, 0, none⟩), .agg (putC x bv).toArray] w fun e w' => e = .returned (.tuple #[]) ∧ RO w0 w' a (nextK x st 4) ∧ WO w0 w' q (agW x st wst 4) := by
  have hq0 : Qt w (w.alloc (.cells (putC x bv).toArray 39)) := (Qt.refl w).alloc _
  have hblk : Blk (w.alloc (.cells (putC x bv).toArray 39)) w.heap.size 39 (putC x bv) := heap_alloc_new w _
  have HP := Lib.hid (fun w => pick_any x.what 10 w hx.w0 hx.w1 (by omega) (by omega))
  have hk' : Value.int .i64 (x.what % 10) = .int .i64 4 := by rw [hk]
  have HK := Lib.hid hk'
  have c0 : (w.alloc (.cells (putC x bv).toArray 39)).cell? ⟨w.heap.size, 0, none⟩ = some (.int .i64 x.what) := hblk.cell 0
  have c1 : (w.alloc (.cells (putC x bv).toArray 39)).cell? ⟨w.heap.size, 1, none⟩ = some (.int .i64 x.n) := hblk.cell 1
  have HR0 := Lib.hid (hr.qt hq0)
  have HW0 := Lib.hid (hW.qt hq0)
  have HLT := Lib.hid hr.lt
  have HRC := Lib.hid (I64_r a st w0 _ HR0.out)
  clear hr hW hx hq0 hblk hk hk'
  go_enter Try.func19, Try.ntmps19
  go_wp2_with (first
    | (go_at_call 26; refine (HP.out _).mono ?_; rintro e w1 ⟨rfl, rfl⟩; rw [HK.out])
    | (go_at_call 38; refine HRC.out.mono ?_; rintro e w1 ⟨rfl, hr2, g2⟩; (have HW1 := Lib.hid (HW0.out.og g2 HLT.out)); (have HC := Lib.hid (wI64_r q a wst _ w0 w1 (num 8 st) (by have := HR0.out.ok.num 8; omega) HW1.out hr2 (by have h1 := raw_le x.n st; have h2 := text_le x.n st; omega))); clear hr2 g2)
    | (go_at_call 56; refine HC.out.mono ?_; rintro e w2 ⟨rfl, hw3, hr3, _⟩; (have HW3 := Lib.hid hw3); (have HR3 := Lib.hid hr3); clear hw3 hr3))
  go_end0
  exact ⟨rfl, HR3.out, HW3.out⟩
set_option maxRecDepth 100000 in
set_option maxHeartbeats 1000000 in
theorem again_5 (a q : Nat) (x : PutD) (bv : Value) (st wst : Option (List Nat)) (w0 w : World) (hr : RO w0 w a st) (hW : WO w0 w q wst) (hx : x.Ok) (hl : lenO wst + 40 + lenO st ≤ 140737488351232) (hk : x.what % 10 = 5) :
    Calls Try.prog 19 #[.pointer (some ⟨a, 0, none⟩), .pointer (some ⟨q, 0, none⟩), .agg (putC x bv).toArray] w fun e w' => e = .returned (.tuple #[]) ∧ RO w0 w' a (nextK x st 5) ∧ WO w0 w' q (agW x st wst 5) := by
  have hq0 : Qt w (w.alloc (.cells (putC x bv).toArray 39)) := (Qt.refl w).alloc _
  have hblk : Blk (w.alloc (.cells (putC x bv).toArray 39)) w.heap.size 39 (putC x bv) := heap_alloc_new w _
  have HP := Lib.hid (fun w => pick_any x.what 10 w hx.w0 hx.w1 (by omega) (by omega))
  have hk' : Value.int .i64 (x.what % 10) = .int .i64 5 := by rw [hk]
  have HK := Lib.hid hk'
  have c0 : (w.alloc (.cells (putC x bv).toArray 39)).cell? ⟨w.heap.size, 0, none⟩ = some (.int .i64 x.what) := hblk.cell 0
  have c1 : (w.alloc (.cells (putC x bv).toArray 39)).cell? ⟨w.heap.size, 1, none⟩ = some (.int .i64 x.n) := hblk.cell 1
  have HR0 := Lib.hid (hr.qt hq0)
  have HW0 := Lib.hid (hW.qt hq0)
  have HLT := Lib.hid hr.lt
  have HRC := Lib.hid (Hash_r a st w0 _ HR0.out)
  clear hr hW hx hq0 hblk hk hk'
  go_enter Try.func19, Try.ntmps19
  go_wp2_with (first
    | (go_at_call 26; refine (HP.out _).mono ?_; rintro e w1 ⟨rfl, rfl⟩; rw [HK.out])
    | (go_at_call 39; refine HRC.out.mono ?_; rintro e w1 ⟨rfl, hr2, g2⟩; (have HW1 := Lib.hid (HW0.out.og g2 HLT.out)); (have HC := Lib.hid (wHash_r q a wst _ w0 w1 (hshV st) (hshV_len st) HR0.out.ok.hsh HW1.out hr2 (by have h1 := raw_le x.n st; have h2 := text_le x.n st; omega))); clear hr2 g2)
    | (go_at_call 57; refine HC.out.mono ?_; rintro e w2 ⟨rfl, hw3, hr3, _⟩; (have HW3 := Lib.hid hw3); (have HR3 := Lib.hid hr3); clear hw3 hr3))
  go_end0
  exact ⟨rfl, HR3.out, HW3.out⟩
set_option maxRecDepth 100000 in
set_option maxHeartbeats 1000000 in
theorem again_6 (a q : Nat) (x : PutD) (bv : Value) (st wst : Option (List Nat)) (w0 w : World) (hr : RO w0 w a st) (hW : WO w0 w q wst) (hx : x.Ok) (hl : lenO wst + 40 + lenO st ≤ 140737488351232) (hk : x.what % 10 = 6) :
    Calls Try.prog 19 #[.pointer (some ⟨a, 0, none⟩), .pointer (some ⟨q, 0, none⟩), .agg (putC x bv).toArray] w fun e w' => e = .returned (.tuple #[]) ∧ RO w0 w' a (nextK x st 6) ∧ WO w0 w' q (agW x st wst 6) := by
  have hq0 : Qt w (w.alloc (.cells (putC x bv).toArray 39)) := (Qt.refl w).alloc _
  have hblk : Blk (w.alloc (.cells (putC x bv).toArray 39)) w.heap.size 39 (putC x bv) := heap_alloc_new w _
  have HP := Lib.hid (fun w => pick_any x.what 10 w hx.w0 hx.w1 (by omega) (by omega))
  have hk' : Value.int .i64 (x.what % 10) = .int .i64 6 := by rw [hk]
  have HK := Lib.hid hk'
  have c0 : (w.alloc (.cells (putC x bv).toArray 39)).cell? ⟨w.heap.size, 0, none⟩ = some (.int .i64 x.what) := hblk.cell 0
  have c1 : (w.alloc (.cells (putC x bv).toArray 39)).cell? ⟨w.heap.size, 1, none⟩ = some (.int .i64 x.n) := hblk.cell 1
  have HR0 := Lib.hid (hr.qt hq0)
  have HW0 := Lib.hid (hW.qt hq0)
  have HLT := Lib.hid hr.lt
  have HRC := Lib.hid (Raw_r a x.n st w0 _ HR0.out)
  clear hr hW hx hq0 hblk hk hk'
  go_enter Try.func19, Try.ntmps19
  go_wp2_with (first
    | (go_at_call 26; refine (HP.out _).mono ?_; rintro e w1 ⟨rfl, rfl⟩; rw [HK.out])
    | (go_at_call 23; refine HRC.out.mono ?_; rintro e w1 ⟨r, rfl, ho, hr2, g2⟩; obtain ⟨ra, rc, rfl⟩ := ho.slice; (have HW1 := Lib.hid (HW0.out.og g2 HLT.out)); (have HC := Lib.hid (wRaw_r q a wst _ w0 w1 _ (rawB x.n st) (Rd.of_OQ ho) (raw_8 HR0.out.ok) HW1.out hr2 (by have h1 := raw_le x.n st; have h2 := text_le x.n st; omega))); clear hr2 g2 ho)
    | (go_at_call 24; refine HC.out.mono ?_; rintro e w2 ⟨rfl, hw3, hr3, _⟩; (have HW3 := Lib.hid hw3); (have HR3 := Lib.hid hr3); clear hw3 hr3))
  go_end0
  exact ⟨rfl, HR3.out, HW3.out⟩
set_option maxRecDepth 100000 in
set_option maxHeartbeats 1000000 in
theorem again_7 (a q : Nat) (x : PutD) (bv : Value) (st wst : Option (List Nat)) (w0 w : World) (hr : RO w0 w a st) (hW : WO w0 w q wst) (hx : x.Ok) (hl : lenO wst + 40 + lenO st ≤ 140737488351232) (hk : x.what % 10 = 7) :
    Calls Try.prog 19 #[.pointer (some ⟨a, 0, none⟩), .pointer (some ⟨q, 0, none⟩), .agg (putC x bv).toArray] w fun e w' => e = .returned (.tuple #[]) ∧ RO w0 w' a (nextK x st 7) ∧ WO w0 w' q (agW x st wst 7) := by
  have hq0 : Qt w (w.alloc (.cells (putC x bv).toArray 39)) := (Qt.refl w).alloc _
  have hblk : Blk (w.alloc (.cells (putC x bv).toArray 39)) w.heap.size 39 (putC x bv) := heap_alloc_new w _
  have HP := Lib.hid (fun w => pick_any x.what 10 w hx.w0 hx.w1 (by omega) (by omega))
  have hk' : Value.int .i64 (x.what % 10) = .int .i64 7 := by rw [hk]
  have HK := Lib.hid hk'
  have c0 : (w.alloc (.cells (putC x bv).toArray 39)).cell? ⟨w.heap.size, 0, none⟩ = some (.int .i64 x.what) := hblk.cell 0
  have c1 : (w.alloc (.cells (putC x bv).toArray 39)).cell? ⟨w.heap.size, 1, none⟩ = some (.int .i64 x.n) := hblk.cell 1
  have HR0 := Lib.hid (hr.qt hq0)
  have HW0 := Lib.hid (hW.qt hq0)
  have HLT := Lib.hid hr.lt
  have HRC := Lib.hid (Text_r a x.n st w0 _ HR0.out)
  clear hr hW hx hq0 hblk hk hk'
  go_enter Try.func19, Try.ntmps19
  go_wp2_with (first
    | (go_at_call 26; refine (HP.out _).mono ?_; rintro e w1 ⟨rfl, rfl⟩; rw [HK.out])
    | (go_at_call 32; refine HRC.out.mono ?_; rintro e w1 ⟨rfl, hr2, g2⟩; (have HW1 := Lib.hid (HW0.out.og g2 HLT.out)); (have HC := Lib.hid (wText_r q a wst _ w0 w1 (textB x.n st) (text_8 HR0.out.ok) (by have := text_le x.n st; omega) HW1.out hr2 (by have h1 := raw_le x.n st; have h2 := text_le x.n st; omega))); clear hr2 g2)
    | (go_at_call 29; refine HC.out.mono ?_; rintro e w2 ⟨rfl, hw3, hr3, _⟩; (have HW3 := Lib.hid hw3); (have HR3 := Lib.hid hr3); clear hw3 hr3))
  go_end0
  exact ⟨rfl, HR3.out, HW3.out⟩
set_option maxRecDepth 100000 in
set_option maxHeartbeats 1000000 in
theorem again_8 (a q : Nat) (x : PutD) (bv : Value) (st wst : Option (List Nat)) (w0 w : World) (hr : RO w0 w a st) (hW : WO w0 w q wst) (hx : x.Ok) (hl : lenO wst + 40 + lenO st ≤ 140737488351232) (hk : x.what % 10 = 8) :
    Calls Try.prog 19 #[.pointer (some ⟨a, 0, none⟩), .pointer (some ⟨q, 0, none⟩), .agg (putC x bv).toArray] w fun e w' => e = .returned (.tuple #[]) ∧ RO w0 w' a (nextK x st 8) ∧ WO w0 w' q (agW x st wst 8) := by
  have hq0 : Qt w (w.alloc (.cells (putC x bv).toArray 39)) := (Qt.refl w).alloc _
  have hblk : Blk (w.alloc (.cells (putC x bv).toArray 39)) w.heap.size 39 (putC x bv) := heap_alloc_new w _
  have HP := Lib.hid (fun w => pick_any x.what 10 w hx.w0 hx.w1 (by omega) (by omega))
  have hk' : Value.int .i64 (x.what % 10) = .int .i64 8 := by rw [hk]
  have HK := Lib.hid hk'
  have c0 : (w.alloc (.cells (putC x bv).toArray 39)).cell? ⟨w.heap.size, 0, none⟩ = some (.int .i64 x.what) := hblk.cell 0
  have c1 : (w.alloc (.cells (putC x bv).toArray 39)).cell? ⟨w.heap.size, 1, none⟩ = some (.int .i64 x.n) := hblk.cell 1
  have HR0 := Lib.hid (hr.qt hq0)
  have HW0 := Lib.hid (hW.qt hq0)
  have HLT := Lib.hid hr.lt
  have HRC := Lib.hid (Flag_r a st w0 _ HR0.out)
  clear hr hW hx hq0 hblk hk hk'
  go_enter Try.func19, Try.ntmps19
  go_wp2_with (first
    | (go_at_call 26; refine (HP.out _).mono ?_; rintro e w1 ⟨rfl, rfl⟩; rw [HK.out])
    | (go_at_call 33; refine HRC.out.mono ?_; rintro e w1 ⟨rfl, hr2, g2⟩; (have HW1 := Lib.hid (HW0.out.og g2 HLT.out)); (have HC := Lib.hid (wFlag_r q a wst _ w0 w1 (flagV st) HW1.out hr2 (by have h1 := raw_le x.n st; have h2 := text_le x.n st; omega))); clear hr2 g2)
    | (go_at_call 30; refine HC.out.mono ?_; rintro e w2 ⟨rfl, hw3, hr3, _⟩; (have HW3 := Lib.hid hw3); (have HR3 := Lib.hid hr3); clear hw3 hr3))
  go_end0
  exact ⟨rfl, HR3.out, HW3.out⟩
set_option maxRecDepth 100000 in
set_option maxHeartbeats 1000000 in
theorem again_9 (a q : Nat) (x : PutD) (bv : Value) (st wst : Option (List Nat)) (w0 w : World) (hr : RO w0 w a st) (hW : WO w0 w q wst) (hx : x.Ok) (hl : lenO wst + 40 + lenO st ≤ 140737488351232) (hk : x.what % 10 = 9) :
    Calls Try.prog 19 #[.pointer (some ⟨a, 0, none⟩), .pointer (some ⟨q, 0, none⟩), .agg (putC x bv).toArray] w fun e w' => e = .returned (.tuple #[]) ∧ RO w0 w' a (nextK x st 9) ∧ WO w0 w' q (agW x st wst 9) := by
  have hq0 : Qt w (w.alloc (.cells (putC x bv).toArray 39)) := (Qt.refl w).alloc _
  have hblk : Blk (w.alloc (.cells (putC x bv).toArray 39)) w.heap.size 39 (putC x bv) := heap_alloc_new w _
  have HP := Lib.hid (fun w => pick_any x.what 10 w hx.w0 hx.w1 (by omega) (by omega))
  have hk' : Value.int .i64 (x.what % 10) = .int .i64 9 := by rw [hk]
  have HK := Lib.hid hk'
  have c0 : (w.alloc (.cells (putC x bv).toArray 39)).cell? ⟨w.heap.size, 0, none⟩ = some (.int .i64 x.what) := hblk.cell 0
  have c1 : (w.alloc (.cells (putC x bv).toArray 39)).cell? ⟨w.heap.size, 1, none⟩ = some (.int .i64 x.n) := hblk.cell 1
  have HR0 := Lib.hid (hr.qt hq0)
  have HW0 := Lib.hid (hW.qt hq0)
  have HLT := Lib.hid hr.lt
  have HRC := Lib.hid (Count_r a x.n st w0 _ HR0.out)
  clear hr hW hx hq0 hblk hk hk'
  go_enter Try.func19, Try.ntmps19
  go_wp2_with (first
    | (go_at_call 26; refine (HP.out _).mono ?_; rintro e w1 ⟨rfl, rfl⟩; rw [HK.out])
    | (go_at_call 31; refine HRC.out.mono ?_; rintro e w1 ⟨rfl, hr2, g2⟩; (have HW1 := Lib.hid (HW0.out.og g2 HLT.out)); (have HC := Lib.hid (wU16_r q a wst _ w0 w1 (cntV x.n st : Nat) (by omega) (by have := HR0.out.ok.cnt x.n; omega) HW1.out hr2 (by have h1 := raw_le x.n st; have h2 := text_le x.n st; omega))); clear hr2 g2)
    | (go_at_call 28; refine HC.out.mono ?_; rintro e w2 ⟨rfl, hw3, hr3, _⟩; (have HW3 := Lib.hid hw3); (have HR3 := Lib.hid hr3); clear hw3 hr3))
  go_end0
  exact ⟨rfl, HR3.out, HW3.out⟩
theorem again_any (a q : Nat) (x : PutD) (bv : Value) (st wst : Option (List Nat)) (w0 w : World) (hr : RO w0 w a st) (hW : WO w0 w q wst) (hx : x.Ok) (hl : lenO wst + 40 + lenO st ≤ 140737488351232) :
    Calls Try.prog 19 #[.pointer (some ⟨a, 0, none⟩), .pointer (some ⟨q, 0, none⟩), .agg (putC x bv).toArray] w fun e w' => e = .returned (.tuple #[]) ∧ RO w0 w' a (nextK x st (pk x)) ∧ WO w0 w' q (agW x st wst (pk x)) := by
  have h10 := pk_lt x
  obtain ⟨k, hk⟩ : ∃ k, pk x = k := ⟨_, rfl⟩
  rw [hk] at h10 ⊢
  have hi := pk_int x k hk
  match k, h10, hi with
  | 0, _, hi => exact again_0 a q x bv st wst w0 w hr hW hx hl hi
  | 1, _, hi => exact again_1 a q x bv st wst w0 w hr hW hx hl hi
  | 2, _, hi => exact again_2 a q x bv st wst w0 w hr hW hx hl hi
  | 3, _, hi => exact again_3 a q x bv st wst w0 w hr hW hx hl hi
  | 4, _, hi => exact again_4 a q x bv st wst w0 w hr hW hx hl hi
  | 5, _, hi => exact again_5 a q x bv st wst w0 w hr hW hx hl hi
  | 6, _, hi => exact again_6 a q x bv st wst w0 w hr hW hx hl hi
  | 7, _, hi => exact again_7 a q x bv st wst w0 w hr hW hx hl hi
  | 8, _, hi => exact again_8 a q x bv st wst w0 w hr hW hx hl hi
  | 9, _, hi => exact again_9 a q x bv st wst w0 w hr hW hx hl hi
end Go.Proofs.Ytajkmblcphdnbaa
