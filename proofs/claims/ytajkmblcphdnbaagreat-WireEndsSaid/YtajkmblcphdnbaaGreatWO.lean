import Derived.Test.YtajkmblcphdnbaaGreatWH
import Derived.Test.YtajkmblcphdnbaaGreatWEB
/-! Count, Flag, Left: printed by genmeth.py. -/
namespace Go.Proofs.YtajkmblcphdnbaaGreat
open Go.RowKit
set_option linter.unusedVariables false
set_option linter.unusedSimpArgs false

/-- Count of st: what is told, what is left. -/
def cntV (most : Int) : Option (List Nat) → Nat
  | some l => if 2 ≤ l.length ∧ (be (l.take 2) : Int) ≤ most then be (l.take 2) else 0
  | none => 0
def cntN (most : Int) : Option (List Nat) → Option (List Nat)
  | some l => if 2 ≤ l.length ∧ (be (l.take 2) : Int) ≤ most then some (l.drop 2) else none
  | none => none
def flagV : Option (List Nat) → Bool
  | some l => if 1 ≤ l.length ∧ be (l.take 1) < 2 then be (l.take 1) == 1 else false
  | none => false
def flagN : Option (List Nat) → Option (List Nat)
  | some l => if 1 ≤ l.length ∧ be (l.take 1) < 2 then some (l.drop 1) else none
  | none => none

section
variable (a p : Nat) (sl : Value) (l : List Nat) (w : World)
theorem count_yes (q : Nat) (most : Int) (hp : w.cell? ⟨p, 0, none⟩ = some (.pointer (some ⟨a, 0, none⟩))) (hq : w.cell? ⟨q, 0, none⟩ = some (.int .i64 most)) (hb : Blk w a 69 [.bool true, .bool false, sl]) (hs : Sl w sl l) (hl : ∀ z ∈ l, z < 256) (hk : 2 ≤ l.length ∧ (be (l.take 2) : Int) ≤ most) :
    Calls Tryz.prog 66 #[.pointer (some ⟨p, 0, none⟩), .pointer (some ⟨q, 0, none⟩)] w fun e w' => e = .returned (.int .i64 (be (l.take 2) : Nat)) ∧ (∃ sl', Blk w' a 69 [.bool true, .bool false, sl'] ∧ Tl sl l sl' (l.drop 2)) ∧ Og a w w' := by
  have HT := Lib.hid (number_yes a true false sl l w 2 hb hs hl hk.1 (by omega))
  have hv : be (l.take 2) < 256 ^ 2 := by have := be_lt (l.take 2) (fun x hx => hl x (List.mem_of_mem_take hx)); rwa [List.length_take, Nat.min_eq_left hk.1] at this
  have hv' : be (l.take 2) < 65536 := Nat.lt_of_lt_of_le hv (by decide)
  have hm := hk.2
  have hqa : q ≠ a := by rintro rfl; rw [hb.cell] at hq; cases hq
  have HQ := Lib.hid hq
  clear hb hs hl hv hk
  generalize be (l.take 2) = N at *
  have d1 : decide ((N : Int) ≤ most) = true := by simpa using hm
  go_enter Tryz.func66, Tryz.ntmps66
  go_wp2_with (first
    | (go_at_call 67; refine HT.out.mono ?_; rintro e w1 ⟨rfl, hb1, hog⟩; have hq1 : w1.cell? ⟨q, 0, none⟩ = some (.int .i64 most) := hog.cell HQ.out hqa; (have HB1 := Lib.hid hb1); (have HOG := Lib.hid hog); clear hb1 hog)
    | (go_at_call 68; refine (must_yes _).mono ?_; rintro e w2 ⟨rfl, rfl⟩))
  go_ret
  exact ⟨by go_num, HB1.out, HOG.out⟩
theorem count_no (q : Nat) (most : Int) (hp : w.cell? ⟨p, 0, none⟩ = some (.pointer (some ⟨a, 0, none⟩))) (hq : w.cell? ⟨q, 0, none⟩ = some (.int .i64 most)) (hb : Blk w a 69 [.bool true, .bool false, sl]) (hs : Sl w sl l) (hl : ∀ z ∈ l, z < 256) (hk : ¬(2 ≤ l.length ∧ (be (l.take 2) : Int) ≤ most)) :
    Calls Tryz.prog 66 #[.pointer (some ⟨p, 0, none⟩), .pointer (some ⟨q, 0, none⟩)] w fun e w' => e = .panicked [unmet] ∧ (∃ sl', Blk w' a 69 [.bool true, .bool false, sl']) ∧ Og a w w' := by
  by_cases h2 : 2 ≤ l.length
  · have HT := Lib.hid (number_yes a true false sl l w 2 hb hs hl h2 (by omega))
    have hv : be (l.take 2) < 256 ^ 2 := by have := be_lt (l.take 2) (fun x hx => hl x (List.mem_of_mem_take hx)); rwa [List.length_take, Nat.min_eq_left h2] at this
    have hv' : be (l.take 2) < 65536 := Nat.lt_of_lt_of_le hv (by decide)
    have hm : ¬((be (l.take 2) : Int) ≤ most) := fun h => hk ⟨h2, h⟩
    have hqa : q ≠ a := by rintro rfl; rw [hb.cell] at hq; cases hq
    have HQ := Lib.hid hq
    clear hb hs hl hv hk
    generalize be (l.take 2) = N at *
    have d1 : decide ((N : Int) ≤ most) = false := by simpa using hm
    go_enter Tryz.func66, Tryz.ntmps66
    go_wp2_with (first
      | (go_at_call 67; refine HT.out.mono ?_; rintro e w1 ⟨rfl, hb1, hog⟩; have hq1 : w1.cell? ⟨q, 0, none⟩ = some (.int .i64 most) := hog.cell HQ.out hqa; (have HB1 := Lib.hid hb1); (have HOG := Lib.hid hog); clear hb1 hog)
      | (go_at_call 68; refine (must_no _).mono ?_; rintro e w2 ⟨rfl, rfl⟩))
    obtain ⟨sl', hb1, _⟩ := HB1.out
    exact ⟨rfl, rfl, ⟨sl', hb1⟩, HOG.out⟩
  · have HT := Lib.hid (number_no a true false sl l w 2 hb hs (by omega))
    have HB := Lib.hid hb
    clear hb hs hk hl
    go_enter Tryz.func66, Tryz.ntmps66
    go_wp2_with (go_at_call 67; refine HT.out.mono ?_; rintro e w1 ⟨rfl, rfl⟩)
    exact ⟨rfl, rfl, ⟨_, HB.out⟩, Og.refl _ _⟩
theorem flag_yes (hp : w.cell? ⟨p, 0, none⟩ = some (.pointer (some ⟨a, 0, none⟩))) (hb : Blk w a 69 [.bool true, .bool false, sl]) (hs : Sl w sl l) (hl : ∀ z ∈ l, z < 256) (hk : 1 ≤ l.length ∧ be (l.take 1) < 2) :
    Calls Tryz.prog 73 #[.pointer (some ⟨p, 0, none⟩)] w fun e w' => e = .returned (.bool (be (l.take 1) == 1)) ∧ (∃ sl', Blk w' a 69 [.bool true, .bool false, sl'] ∧ Tl sl l sl' (l.drop 1)) ∧ Og a w w' := by
  have HT := Lib.hid (number_yes a true false sl l w 1 hb hs hl hk.1 (by omega))
  have hm := hk.2
  clear hb hs hl hk
  generalize be (l.take 1) = N at *
  have d1 : decide ((N : Int) < 2) = true := by simp; omega
  have e1 : decide ((N : Int) = 1) = (N == 1) := by rw [Bool.eq_iff_iff]; simp; omega
  have HE := Lib.hid e1
  clear e1
  go_enter Tryz.func73, Tryz.ntmps73
  go_wp2_with (first
    | (go_at_call 67; refine HT.out.mono ?_; rintro e w1 ⟨rfl, hb1, hog⟩; (have HB1 := Lib.hid hb1); (have HOG := Lib.hid hog); clear hb1 hog)
    | (go_at_call 68; refine (must_yes _).mono ?_; rintro e w2 ⟨rfl, rfl⟩))
  go_ret
  exact ⟨by rw [← HE.out]; simp; rw [Bool.eq_iff_iff]; simp, HB1.out, HOG.out⟩
theorem flag_no (hp : w.cell? ⟨p, 0, none⟩ = some (.pointer (some ⟨a, 0, none⟩))) (hb : Blk w a 69 [.bool true, .bool false, sl]) (hs : Sl w sl l) (hl : ∀ z ∈ l, z < 256) (hk : ¬(1 ≤ l.length ∧ be (l.take 1) < 2)) :
    Calls Tryz.prog 73 #[.pointer (some ⟨p, 0, none⟩)] w fun e w' => e = .panicked [unmet] ∧ (∃ sl', Blk w' a 69 [.bool true, .bool false, sl']) ∧ Og a w w' := by
  by_cases h2 : 1 ≤ l.length
  · have HT := Lib.hid (number_yes a true false sl l w 1 hb hs hl h2 (by omega))
    have hm : ¬(be (l.take 1) < 2) := fun h => hk ⟨h2, h⟩
    clear hb hs hl hk
    generalize be (l.take 1) = N at *
    have d1 : decide ((N : Int) < 2) = false := by simp; omega
    go_enter Tryz.func73, Tryz.ntmps73
    go_wp2_with (first
      | (go_at_call 67; refine HT.out.mono ?_; rintro e w1 ⟨rfl, hb1, hog⟩; (have HB1 := Lib.hid hb1); (have HOG := Lib.hid hog); clear hb1 hog)
      | (go_at_call 68; refine (must_no _).mono ?_; rintro e w2 ⟨rfl, rfl⟩))
    obtain ⟨sl', hb1, _⟩ := HB1.out
    exact ⟨rfl, rfl, ⟨sl', hb1⟩, HOG.out⟩
  · have HT := Lib.hid (number_no a true false sl l w 1 hb hs (by omega))
    have HB := Lib.hid hb
    clear hb hs hk hl
    go_enter Tryz.func73, Tryz.ntmps73
    go_wp2_with (go_at_call 67; refine HT.out.mono ?_; rintro e w1 ⟨rfl, rfl⟩)
    exact ⟨rfl, rfl, ⟨_, HB.out⟩, Og.refl _ _⟩
end
theorem Count_dead (p : Value) (most : Int) (w : World) (hd : Dead w p) : Calls Tryz.prog 19 #[p, .int .i64 most] w fun e w' => e = .returned (.int .i64 0) ∧ Qt w w' := by
  have hmf : ∀ (fn : Fn) (first cap : Array Value) (w : World), (Instr.makeFunc fn first cap).run Tryz.prog w = .ok (.func fn first cap) w := fun _ _ _ _ => rfl
  have HD := Lib.hid (askedI_dead p (.func (.func 66) #[] #[.pointer (some ⟨w.heap.size, 0, none⟩), .pointer (some ⟨w.heap.size + 1, 0, none⟩)]) ((w.alloc (.cells #[p] 44)).alloc (.cells #[.int .i64 most] 3)) (hd.qt (((Qt.refl w).alloc _).alloc _)))
  have hq := fun w' (q : Qt ((w.alloc (.cells #[p] 44)).alloc (.cells #[.int .i64 most] 3)) w') => (((Qt.refl w).alloc _).alloc _ : Qt w ((w.alloc (.cells #[p] 44)).alloc (.cells #[.int .i64 most] 3))).trans q
  obtain ⟨x, rfl⟩ : ∃ x, p = .pointer x := by rcases hd with rfl | ⟨a, _, _, _, rfl, _⟩ <;> exact ⟨_, rfl⟩
  clear hd
  go_enter Tryz.func19, Tryz.ntmps19
  go_wp2_with (go_at_call 65; refine HD.out.mono ?_; rintro e w' ⟨rfl, q⟩)
  go_ret
  exact ⟨rfl, hq _ q⟩
theorem Count_any (a : Nat) (most : Int) (st : Option (List Nat)) (w : World) (hr : RdA w a st) : Calls Tryz.prog 19 #[.pointer (some ⟨a, 0, none⟩), .int .i64 most] w fun e w' => e = .returned (.int .i64 ((cntV most st) : Nat)) ∧ RdA w' a (cntN most st) ∧ Og a w w' := by
  have hmf : ∀ (fn : Fn) (first cap : Array Value) (w : World), (Instr.makeFunc fn first cap).run Tryz.prog w = .ok (.func fn first cap) w := fun _ _ _ _ => rfl
  have hcf : ∀ args w, (callFunc 66 args).run Tryz.prog w = .ok (.enter 66 args) w := fun _ _ => by kernel_rfl
  cases st with
  | none => exact (Count_dead _ most w hr.dead).mono (by rintro e w' ⟨rfl, q⟩; obtain ⟨sl, hb⟩ := hr; exact ⟨rfl, ⟨sl, hb.qt q⟩, q.og⟩)
  | some l =>
    have hr0 : RdS w a l := hr
    obtain ⟨⟨sl, hb, hs⟩, hl⟩ := hr
    obtain ⟨sb, sc, rfl⟩ := hs.len
    have hlt := hb.lt
    have hq0 : Qt w ((w.alloc (.cells #[.pointer (some ⟨a, 0, none⟩)] 44)).alloc (.cells #[.int .i64 most] 3)) := ((Qt.refl w).alloc _).alloc _
    have hc0 : ∀ w1, Qt ((w.alloc (.cells #[.pointer (some ⟨a, 0, none⟩)] 44)).alloc (.cells #[.int .i64 most] 3)) w1 → w1.cell? ⟨w.heap.size, 0, none⟩ = some (.pointer (some ⟨a, 0, none⟩)) := fun w1 q => (q.cell (p := ⟨w.heap.size, 0, none⟩) (by simp <;> omega)).trans (by simp [go_sem])
    have hc1 : ∀ w1, Qt ((w.alloc (.cells #[.pointer (some ⟨a, 0, none⟩)] 44)).alloc (.cells #[.int .i64 most] 3)) w1 → w1.cell? ⟨w.heap.size + 1, 0, none⟩ = some (.int .i64 most) := fun w1 q => (q.cell (p := ⟨w.heap.size + 1, 0, none⟩) (by simp)).trans (by simp [go_sem])
    by_cases hk : 2 ≤ l.length ∧ (be (l.take 2) : Int) ≤ most
    · have HA := Lib.hid (askedI_met a sb l.length sc 66 #[.pointer (some ⟨w.heap.size, 0, none⟩), .pointer (some ⟨w.heap.size + 1, 0, none⟩)] (be (l.take 2) : Nat) _ (hb.qt hq0) (fun sl' => Tl (.slice sb l.length sc) l sl' (l.drop 2)) hcf
        (fun w1 q => (count_yes a w.heap.size _ l w1 (w.heap.size + 1) most (hc0 w1 q) (hc1 w1 q) (hb.qt (hq0.trans q)) (hs.qt (hq0.trans q)) hl hk)))
      have fin : ∀ w2, (∃ sl', Blk w2 a 69 [.bool true, .bool false, sl'] ∧ Tl (.slice sb l.length sc) l sl' (l.drop 2)) → Og a ((w.alloc (.cells #[.pointer (some ⟨a, 0, none⟩)] 44)).alloc (.cells #[.int .i64 most] 3)) w2 → cntV most (some l) = (be (l.take 2) : Nat) ∧ RdA w2 a (cntN most (some l)) ∧ Og a w w2 := fun w2 h q =>
        ⟨if_pos hk, by rw [cntN, if_pos hk]; exact hr0.behind (fun x hx => List.mem_of_mem_drop hx) _ hb hs h (hq0.og.trans q), hq0.og.trans q⟩
      have HF := Lib.hid fin
      clear fin hr0 hb hs hl hq0 hc0 hc1
      go_enter Tryz.func19, Tryz.ntmps19
      go_wp2_with (go_at_call 65; refine HA.out.mono ?_; rintro e w' ⟨rfl, h, q⟩; (have HH := Lib.hid h); (have HQ := Lib.hid q); clear h q)
      go_ret
      obtain ⟨h1, h2, h3⟩ := HF.out _ HH.out HQ.out
      exact ⟨by rw [h1]; rfl, h2, h3⟩
    · have HA := Lib.hid (askedI_unmet a sb l.length sc 66 #[.pointer (some ⟨w.heap.size, 0, none⟩), .pointer (some ⟨w.heap.size + 1, 0, none⟩)] _ (hb.qt hq0) hcf
        (fun w1 q => (count_no a w.heap.size _ l w1 (w.heap.size + 1) most (hc0 w1 q) (hc1 w1 q) (hb.qt (hq0.trans q)) (hs.qt (hq0.trans q)) hl hk)))
      have fin : ∀ w2, Blk w2 a 69 [.bool true, .bool true, .slice sb l.length sc] → Og a ((w.alloc (.cells #[.pointer (some ⟨a, 0, none⟩)] 44)).alloc (.cells #[.int .i64 most] 3)) w2 → cntV most (some l) = cntV most none ∧ RdA w2 a (cntN most (some l)) ∧ Og a w w2 := fun w2 h q =>
        ⟨if_neg hk, by rw [cntN, if_neg hk]; exact ⟨_, h⟩, hq0.og.trans q⟩
      have HF := Lib.hid fin
      clear fin hr0 hb hs hl hq0 hc0 hc1
      go_enter Tryz.func19, Tryz.ntmps19
      go_wp2_with (go_at_call 65; refine HA.out.mono ?_; rintro e w' ⟨rfl, h, q⟩; (have HH := Lib.hid h); (have HQ := Lib.hid q); clear h q)
      go_ret
      obtain ⟨h1, h2, h3⟩ := HF.out _ HH.out HQ.out
      exact ⟨by rw [h1]; rfl, h2, h3⟩
theorem Flag_dead (p : Value) (w : World) (hd : Dead w p) : Calls Tryz.prog 21 #[p] w fun e w' => e = .returned (.bool false) ∧ Qt w w' := by
  have hmf : ∀ (fn : Fn) (first cap : Array Value) (w : World), (Instr.makeFunc fn first cap).run Tryz.prog w = .ok (.func fn first cap) w := fun _ _ _ _ => rfl
  have HD := Lib.hid (askedB_dead p (.func (.func 73) #[] #[.pointer (some ⟨w.heap.size, 0, none⟩)]) (w.alloc (.cells #[p] 44)) (hd.qt ((Qt.refl w).alloc _)))
  have hq := fun w' (q : Qt (w.alloc (.cells #[p] 44)) w') => ((Qt.refl w).alloc _ : Qt w (w.alloc (.cells #[p] 44))).trans q
  obtain ⟨x, rfl⟩ : ∃ x, p = .pointer x := by rcases hd with rfl | ⟨a, _, _, _, rfl, _⟩ <;> exact ⟨_, rfl⟩
  clear hd
  go_enter Tryz.func21, Tryz.ntmps21
  go_wp2_with (go_at_call 72; refine HD.out.mono ?_; rintro e w' ⟨rfl, q⟩)
  go_ret
  exact ⟨rfl, hq _ q⟩
theorem Flag_any (a : Nat) (st : Option (List Nat)) (w : World) (hr : RdA w a st) : Calls Tryz.prog 21 #[.pointer (some ⟨a, 0, none⟩)] w fun e w' => e = .returned (.bool (flagV st)) ∧ RdA w' a (flagN st) ∧ Og a w w' := by
  have hmf : ∀ (fn : Fn) (first cap : Array Value) (w : World), (Instr.makeFunc fn first cap).run Tryz.prog w = .ok (.func fn first cap) w := fun _ _ _ _ => rfl
  have hcf : ∀ args w, (callFunc 73 args).run Tryz.prog w = .ok (.enter 73 args) w := fun _ _ => by kernel_rfl
  cases st with
  | none => exact (Flag_dead _ w hr.dead).mono (by rintro e w' ⟨rfl, q⟩; obtain ⟨sl, hb⟩ := hr; exact ⟨rfl, ⟨sl, hb.qt q⟩, q.og⟩)
  | some l =>
    have hr0 : RdS w a l := hr
    obtain ⟨⟨sl, hb, hs⟩, hl⟩ := hr
    obtain ⟨sb, sc, rfl⟩ := hs.len
    have hlt := hb.lt
    have hq0 : Qt w (w.alloc (.cells #[.pointer (some ⟨a, 0, none⟩)] 44)) := (Qt.refl w).alloc _
    have hc0 : ∀ w1, Qt (w.alloc (.cells #[.pointer (some ⟨a, 0, none⟩)] 44)) w1 → w1.cell? ⟨w.heap.size, 0, none⟩ = some (.pointer (some ⟨a, 0, none⟩)) := fun w1 q => (q.cell (p := ⟨w.heap.size, 0, none⟩) (by simp <;> omega)).trans (by simp [go_sem])
    by_cases hk : 1 ≤ l.length ∧ be (l.take 1) < 2
    · have HA := Lib.hid (askedB_met a sb l.length sc 73 #[.pointer (some ⟨w.heap.size, 0, none⟩)] (be (l.take 1) == 1) _ (hb.qt hq0) (fun sl' => Tl (.slice sb l.length sc) l sl' (l.drop 1)) hcf
        (fun w1 q => (flag_yes a w.heap.size _ l w1 (hc0 w1 q) (hb.qt (hq0.trans q)) (hs.qt (hq0.trans q)) hl hk)))
      have fin : ∀ w2, (∃ sl', Blk w2 a 69 [.bool true, .bool false, sl'] ∧ Tl (.slice sb l.length sc) l sl' (l.drop 1)) → Og a (w.alloc (.cells #[.pointer (some ⟨a, 0, none⟩)] 44)) w2 → flagV (some l) = (be (l.take 1) == 1) ∧ RdA w2 a (flagN (some l)) ∧ Og a w w2 := fun w2 h q =>
        ⟨if_pos hk, by rw [flagN, if_pos hk]; exact hr0.behind (fun x hx => List.mem_of_mem_drop hx) _ hb hs h (hq0.og.trans q), hq0.og.trans q⟩
      have HF := Lib.hid fin
      clear fin hr0 hb hs hl hq0 hc0
      go_enter Tryz.func21, Tryz.ntmps21
      go_wp2_with (go_at_call 72; refine HA.out.mono ?_; rintro e w' ⟨rfl, h, q⟩; (have HH := Lib.hid h); (have HQ := Lib.hid q); clear h q)
      go_ret
      obtain ⟨h1, h2, h3⟩ := HF.out _ HH.out HQ.out
      exact ⟨by rw [h1]; rfl, h2, h3⟩
    · have HA := Lib.hid (askedB_unmet a sb l.length sc 73 #[.pointer (some ⟨w.heap.size, 0, none⟩)] _ (hb.qt hq0) hcf
        (fun w1 q => (flag_no a w.heap.size _ l w1 (hc0 w1 q) (hb.qt (hq0.trans q)) (hs.qt (hq0.trans q)) hl hk)))
      have fin : ∀ w2, Blk w2 a 69 [.bool true, .bool true, .slice sb l.length sc] → Og a (w.alloc (.cells #[.pointer (some ⟨a, 0, none⟩)] 44)) w2 → flagV (some l) = flagV none ∧ RdA w2 a (flagN (some l)) ∧ Og a w w2 := fun w2 h q =>
        ⟨if_neg hk, by rw [flagN, if_neg hk]; exact ⟨_, h⟩, hq0.og.trans q⟩
      have HF := Lib.hid fin
      clear fin hr0 hb hs hl hq0 hc0
      go_enter Tryz.func21, Tryz.ntmps21
      go_wp2_with (go_at_call 72; refine HA.out.mono ?_; rintro e w' ⟨rfl, h, q⟩; (have HH := Lib.hid h); (have HQ := Lib.hid q); clear h q)
      go_ret
      obtain ⟨h1, h2, h3⟩ := HF.out _ HH.out HQ.out
      exact ⟨by rw [h1]; rfl, h2, h3⟩
end Go.Proofs.YtajkmblcphdnbaaGreat
