import Derived.Test.YtajkmblcphdnbaaGreatWD
import Derived.Test.YtajkmblcphdnbaaGreatWG
/-! A reader's numbers. -/
namespace Go.Proofs.YtajkmblcphdnbaaGreat
open Go.RowKit
set_option linter.unusedVariables false
set_option linter.unusedSimpArgs false

/-- A reader that is right: what is left. -/
structure RdS (w : World) (a : Nat) (l : List Nat) : Prop where
  ex : ∃ sl, Blk w a 69 [.bool true, .bool false, sl] ∧ Sl w sl l
  lt : ∀ x ∈ l, x < 256
/-- A reader: what is left, or that it is spoilt. -/
def RdA (w : World) (a : Nat) : Option (List Nat) → Prop
  | some l => RdS w a l
  | none => ∃ sl, Blk w a 69 [.bool true, .bool true, sl]
theorem RdA.dead {w : World} {a : Nat} (h : RdA w a none) : Dead w (.pointer (some ⟨a, 0, none⟩)) := by
  obtain ⟨sl, hb⟩ := h
  exact .inr ⟨a, true, true, sl, rfl, hb, .inr rfl⟩
theorem Dead.qt {w w' : World} {p : Value} (h : Dead w p) (q : Qt w w') : Dead w' p := by
  rcases h with rfl | ⟨a, m, b, sl, rfl, hb, h⟩
  · exact .inl rfl
  · exact .inr ⟨a, m, b, sl, rfl, hb.qt q, h⟩
theorem RdA.lt {w : World} {a : Nat} {st : Option (List Nat)} (h : RdA w a st) : a < w.heap.size := by
  cases st with
  | none => obtain ⟨sl, hb⟩ := h; exact hb.lt
  | some l => obtain ⟨⟨sl, hb, _⟩, _⟩ := h; exact hb.lt
theorem RdA.qt {w w' : World} {a : Nat} {st : Option (List Nat)} (h : RdA w a st) (q : Qt w w') : RdA w' a st := by
  cases st with
  | none => obtain ⟨sl, hb⟩ := h; exact ⟨sl, hb.qt q⟩
  | some l => obtain ⟨⟨sl, hb, hs⟩, hl⟩ := h; exact ⟨⟨sl, hb.qt q, hs.qt q⟩, hl⟩
/-- What stands behind a call that took some. -/
theorem RdS.behind {w w' : World} {a : Nat} {l l' : List Nat} (h : RdS w a l) (hl : ∀ x ∈ l', x ∈ l) (sl : Value) (hb : Blk w a 69 [.bool true, .bool false, sl]) (hs : Sl w sl l) (hb' : ∃ sl', Blk w' a 69 [.bool true, .bool false, sl'] ∧ Tl sl l sl' l') (q : Og a w w') : RdS w' a l' := by
  obtain ⟨_, hlt⟩ := h
  obtain ⟨sl', hb2, hs2⟩ := hb'
  obtain ⟨sb, c, rfl⟩ := hs.len
  exact ⟨⟨sl', hb2, (hs2 w hs).og hb (no_u8 ⟨_, _, _, rfl⟩) q⟩, fun x hx => hlt x (hl x hx)⟩

/-- The next number of so many bytes; 0, where there are not. -/
def num (k : Nat) : Option (List Nat) → Nat
  | some l => if k ≤ l.length then be (l.take k) else 0
  | none => 0
/-- What is left behind so many bytes. -/
def nxt (k : Nat) : Option (List Nat) → Option (List Nat)
  | some l => if k ≤ l.length then some (l.drop k) else none
  | none => none

theorem w64_0 : wrap64 ((0 : Nat) : Int) = 0 := by unfold wrap64; omega

section
variable (a p : Nat) (sl : Value) (l : List Nat) (w : World)
theorem u8_yes (hp : w.cell? ⟨p, 0, none⟩ = some (.pointer (some ⟨a, 0, none⟩))) (hb : Blk w a 69 [.bool true, .bool false, sl]) (hs : Sl w sl l) (hl : ∀ z ∈ l, z < 256) (hk : 1 ≤ l.length) :
    Calls Tryz.prog 79 #[.pointer (some ⟨p, 0, none⟩)] w fun e w' => e = .returned (.int .i64 (be (l.take 1) : Nat)) ∧ (∃ sl', Blk w' a 69 [.bool true, .bool false, sl'] ∧ Tl sl l sl' (l.drop 1)) ∧ Og a w w' := by
  have HT := Lib.hid (number_yes a true false sl l w 1 hb hs hl hk (by omega))
  have hv : be (l.take 1) < 256 ^ 1 := by have := be_lt (l.take 1) (fun x hx => hl x (List.mem_of_mem_take hx)); rwa [List.length_take, Nat.min_eq_left hk] at this
  have hv' : be (l.take 1) < 4294967296 := Nat.lt_of_lt_of_le hv (by decide)
  clear hb hs hl hv
  generalize be (l.take 1) = N at *
  go_enter Tryz.func79, Tryz.ntmps79
  go_wp2_with (go_at_call 67; refine HT.out.mono ?_; rintro e w1 ⟨rfl, hb1, hog⟩)
  go_ret
  exact ⟨by go_num, hb1, hog⟩
theorem u8_no (hp : w.cell? ⟨p, 0, none⟩ = some (.pointer (some ⟨a, 0, none⟩))) (hb : Blk w a 69 [.bool true, .bool false, sl]) (hs : Sl w sl l) (hk : l.length < 1) :
    Calls Tryz.prog 79 #[.pointer (some ⟨p, 0, none⟩)] w fun e w' => e = .panicked [unmet] ∧ w = w' := by
  have HT := Lib.hid (number_no a true false sl l w 1 hb hs hk)
  clear hb hs
  go_enter Tryz.func79, Tryz.ntmps79
  go_wp2_with (go_at_call 67; refine HT.out.mono ?_; rintro e w1 ⟨rfl, rfl⟩)
  exact ⟨rfl, rfl, rfl⟩
end
theorem U8_dead (p : Value) (w : World) (hd : Dead w p) : Calls Tryz.prog 43 #[p] w fun e w' => e = .returned (.int .i64 0) ∧ Qt w w' := by
  have hmf : ∀ (fn : Fn) (first cap : Array Value) (w : World), (Instr.makeFunc fn first cap).run Tryz.prog w = .ok (.func fn first cap) w := fun _ _ _ _ => rfl
  have HD := Lib.hid (askedI_dead p (.func (.func 79) #[] #[.pointer (some ⟨w.heap.size, 0, none⟩)]) _ (hd.qt ((Qt.refl w).alloc (.cells #[p] 44))))
  have hq := fun w' (q : Qt (w.alloc (.cells #[p] 44)) w') => ((Qt.refl w).alloc _).trans q
  obtain ⟨x, rfl⟩ : ∃ x, p = .pointer x := by rcases hd with rfl | ⟨a, _, _, _, rfl, _⟩ <;> exact ⟨_, rfl⟩
  clear hd
  go_enter Tryz.func43, Tryz.ntmps43
  go_wp2_with (go_at_call 65; refine HD.out.mono ?_; rintro e w' ⟨rfl, q⟩)
  go_ret
  exact ⟨rfl, hq _ q⟩
theorem U8_any (a : Nat) (st : Option (List Nat)) (w : World) (hr : RdA w a st) : Calls Tryz.prog 43 #[.pointer (some ⟨a, 0, none⟩)] w fun e w' => e = .returned (.int .i64 (num 1 st : Nat)) ∧ RdA w' a (nxt 1 st) ∧ Og a w w' := by
  have hmf : ∀ (fn : Fn) (first cap : Array Value) (w : World), (Instr.makeFunc fn first cap).run Tryz.prog w = .ok (.func fn first cap) w := fun _ _ _ _ => rfl
  have hcf : ∀ args w, (callFunc 79 args).run Tryz.prog w = .ok (.enter 79 args) w := fun _ _ => by kernel_rfl
  cases st with
  | none => exact (U8_dead _ w hr.dead).mono (by rintro e w' ⟨rfl, q⟩; obtain ⟨sl, hb⟩ := hr; exact ⟨rfl, ⟨sl, hb.qt q⟩, q.og⟩)
  | some l =>
    have hr0 : RdS w a l := hr
    obtain ⟨⟨sl, hb, hs⟩, hl⟩ := hr
    obtain ⟨sb, sc, rfl⟩ := hs.len
    have hlt := hb.lt
    have hq0 : Qt w (w.alloc (.cells #[.pointer (some ⟨a, 0, none⟩)] 44)) := (Qt.refl w).alloc _
    have hc0 : ∀ w1, Qt (w.alloc (.cells #[.pointer (some ⟨a, 0, none⟩)] 44)) w1 → w1.cell? ⟨w.heap.size, 0, none⟩ = some (.pointer (some ⟨a, 0, none⟩)) := fun w1 q => (q.cell (p := ⟨w.heap.size, 0, none⟩) (by simp)).trans (by simp [go_sem])
    by_cases hk : 1 ≤ l.length
    · have HA := Lib.hid (askedI_met a sb l.length sc 79 #[.pointer (some ⟨w.heap.size, 0, none⟩)] (be (l.take 1) : Nat) _ (hb.qt hq0) (fun sl' => Tl (.slice sb l.length sc) l sl' (l.drop 1)) hcf
        (fun w1 q => (u8_yes a w.heap.size _ l w1 (hc0 w1 q) (hb.qt (hq0.trans q)) (hs.qt (hq0.trans q)) hl hk)))
      have fin : ∀ w2, (∃ sl', Blk w2 a 69 [.bool true, .bool false, sl'] ∧ Tl (.slice sb l.length sc) l sl' (l.drop 1)) → Og a (w.alloc (.cells #[.pointer (some ⟨a, 0, none⟩)] 44)) w2 → num 1 (some l) = be (l.take 1) ∧ RdA w2 a (nxt 1 (some l)) ∧ Og a w w2 := fun w2 h q =>
        ⟨if_pos hk, by rw [nxt, if_pos hk]; exact hr0.behind (fun x hx => List.mem_of_mem_drop hx) _ hb hs h (hq0.og.trans q), hq0.og.trans q⟩
      have HF := Lib.hid fin
      clear fin hr0 hb hs hl hq0 hc0
      go_enter Tryz.func43, Tryz.ntmps43
      go_wp2_with (go_at_call 65; refine HA.out.mono ?_; rintro e w' ⟨rfl, h, q⟩; (have HH := Lib.hid h); (have HQ := Lib.hid q); clear h q)
      go_ret
      obtain ⟨h1, h2, h3⟩ := HF.out _ HH.out HQ.out
      exact ⟨by rw [h1]; rfl, h2, h3⟩
    · have HA := Lib.hid (askedI_unmet a sb l.length sc 79 #[.pointer (some ⟨w.heap.size, 0, none⟩)] _ (hb.qt hq0) hcf
        (fun w1 q => (u8_no a w.heap.size _ l w1 (hc0 w1 q) (hb.qt (hq0.trans q)) (hs.qt (hq0.trans q)) (by omega)).mono (by rintro e w2 ⟨rfl, rfl⟩; exact ⟨rfl, ⟨_, hb.qt (hq0.trans q)⟩, Og.refl _ _⟩)))
      have fin : ∀ w2, Blk w2 a 69 [.bool true, .bool true, .slice sb l.length sc] → Og a (w.alloc (.cells #[.pointer (some ⟨a, 0, none⟩)] 44)) w2 → num 1 (some l) = 0 ∧ RdA w2 a (nxt 1 (some l)) ∧ Og a w w2 := fun w2 h q =>
        ⟨if_neg hk, by rw [nxt, if_neg hk]; exact ⟨_, h⟩, hq0.og.trans q⟩
      have HF := Lib.hid fin
      clear fin hr0 hb hs hl hq0 hc0
      go_enter Tryz.func43, Tryz.ntmps43
      go_wp2_with (go_at_call 65; refine HA.out.mono ?_; rintro e w' ⟨rfl, h, q⟩; (have HH := Lib.hid h); (have HQ := Lib.hid q); clear h q)
      go_ret
      obtain ⟨h1, h2, h3⟩ := HF.out _ HH.out HQ.out
      exact ⟨by rw [h1]; rfl, h2, h3⟩
end Go.Proofs.YtajkmblcphdnbaaGreat
