import Derived.Test.YtajkmblcphdnbaaGreatWH
import Derived.Test.YtajkmblcphdnbaaGreatWES
/-! Left, Text: printed by genmeth.py. -/
namespace Go.Proofs.YtajkmblcphdnbaaGreat
open Go.RowKit
set_option linter.unusedVariables false
set_option linter.unusedSimpArgs false

def leftV : Option (List Nat) → Nat
  | some l => if 0 ≤ l.length then l.length else 0
  | none => 0
def leftN : Option (List Nat) → Option (List Nat)
  | some l => if 0 ≤ l.length then some l else none
  | none => none
theorem leftN_id (st : Option (List Nat)) : leftN st = st := by cases st <;> simp [leftN]
/-- May a text be told? -/
def TextC (most : Int) (l : List Nat) : Prop := 2 ≤ l.length ∧ (be (l.take 2) : Int) ≤ most ∧ be (l.take 2) ≤ l.length - 2
instance (most : Int) (l : List Nat) : Decidable (TextC most l) := inferInstanceAs (Decidable (_ ∧ _ ∧ _))
def textB (most : Int) : Option (List Nat) → List Nat
  | some l => if TextC most l then (l.drop 2).take (be (l.take 2)) else []
  | none => []
def textV (most : Int) (st : Option (List Nat)) : ByteArray := str (textB most st)
def textN (most : Int) : Option (List Nat) → Option (List Nat)
  | some l => if TextC most l then some ((l.drop 2).drop (be (l.take 2))) else none
  | none => none

section
variable (a p : Nat) (sl : Value) (l : List Nat) (w : World)
theorem left_yes (hp : w.cell? ⟨p, 0, none⟩ = some (.pointer (some ⟨a, 0, none⟩))) (hb : Blk w a 69 [.bool true, .bool false, sl]) (hs : Sl w sl l) (_hl : ∀ z ∈ l, z < 256) (_hk : 0 ≤ l.length) :
    Calls Tryz.prog 90 #[.pointer (some ⟨p, 0, none⟩)] w fun e w' => e = .returned (.int .i64 (l.length : Nat)) ∧ (∃ sl', Blk w' a 69 [.bool true, .bool false, sl'] ∧ Tl sl l sl' l) ∧ Og a w w' := by
  obtain ⟨sb, sc, rfl⟩ := hs.len
  have c2 : w.cell? ⟨a, 2, none⟩ = some (.slice sb l.length sc) := hb.cell 2
  have HB := Lib.hid hb
  clear hb hs
  go_enter Tryz.func90, Tryz.ntmps90
  go_wp2
  go_ret
  exact ⟨rfl, ⟨_, HB.out, fun _ h => h⟩, Og.refl _ _⟩
theorem left_no (_hp : w.cell? ⟨p, 0, none⟩ = some (.pointer (some ⟨a, 0, none⟩))) (_hb : Blk w a 69 [.bool true, .bool false, sl]) (_hs : Sl w sl l) (_hl : ∀ z ∈ l, z < 256) (hk : ¬0 ≤ l.length) :
    Calls Tryz.prog 90 #[.pointer (some ⟨p, 0, none⟩)] w fun e w' => e = .panicked [unmet] ∧ (∃ sl', Blk w' a 69 [.bool true, .bool false, sl']) ∧ Og a w w' := absurd (Nat.zero_le _) hk
theorem Tl.trans {sl sl' sl2 : Value} {l l' l2 : List Nat} (h : Tl sl l sl' l') (k : Tl sl' l' sl2 l2) : Tl sl l sl2 l2 := fun w hw => k w (h w hw)
theorem text_yes (q : Nat) (most : Int) (hp : w.cell? ⟨p, 0, none⟩ = some (.pointer (some ⟨a, 0, none⟩))) (hq : w.cell? ⟨q, 0, none⟩ = some (.int .i64 most)) (hb : Blk w a 69 [.bool true, .bool false, sl]) (hs : Sl w sl l) (hl : ∀ z ∈ l, z < 256) (hk : TextC most l) :
    Calls Tryz.prog 70 #[.pointer (some ⟨p, 0, none⟩), .pointer (some ⟨q, 0, none⟩)] w fun e w' => e = .returned (.string (str ((l.drop 2).take (be (l.take 2))))) ∧ (∃ sl', Blk w' a 69 [.bool true, .bool false, sl'] ∧ Tl sl l sl' ((l.drop 2).drop (be (l.take 2)))) ∧ Og a w w' := by
  have HT := Lib.hid (number_yes a true false sl l w 2 hb hs hl hk.1 (by omega))
  have hv : be (l.take 2) < 256 ^ 2 := by have := be_lt (l.take 2) (fun x hx => hl x (List.mem_of_mem_take hx)); rwa [List.length_take, Nat.min_eq_left hk.1] at this
  have hv' : be (l.take 2) < 65536 := Nat.lt_of_lt_of_le hv (by decide)
  have hm := hk.2.1
  have hm2 : be (l.take 2) ≤ (l.drop 2).length := by rw [List.length_drop]; exact hk.2.2
  have hqa : q ≠ a := by rintro rfl; rw [hb.cell] at hq; cases hq
  have hpa : p ≠ a := by rintro rfl; rw [hb.cell] at hp; cases hp
  obtain ⟨sb, sc, rfl⟩ := hs.len
  have hn8 := no_u8 (x := true) (y := false) (s := .slice sb l.length sc) ⟨_, _, _, rfl⟩
  have hsl : ∀ w1 sl', Og a w w1 → Tl (.slice sb l.length sc) l sl' (l.drop 2) → Sl w1 sl' (l.drop 2) := fun w1 sl' q t => (t w hs).og hb hn8 q
  have HQ := Lib.hid hq
  have HP := Lib.hid hp
  have HS := Lib.hid hsl
  have HM2 := Lib.hid hm2
  clear hb hs hl hv hk hsl hn8 hm2
  generalize l.drop 2 = l2 at *
  generalize be (l.take 2) = N at *
  have d1 : decide ((N : Int) ≤ most) = true := by simpa using hm
  go_enter Tryz.func70, Tryz.ntmps70
  go_wp2_with (first
    | (go_at_call 67; refine HT.out.mono ?_; rintro e w1 ⟨rfl, ⟨sl', hb1, ht1⟩, hog⟩; have hq1 : w1.cell? ⟨q, 0, none⟩ = some (.int .i64 most) := hog.cell HQ.out hqa; have hp1 : w1.cell? ⟨p, 0, none⟩ = some (.pointer (some ⟨a, 0, none⟩)) := hog.cell HP.out hpa; (have HB1 := Lib.hid hb1); (have HOG := Lib.hid hog); (have HT1 := Lib.hid ht1); (have HTK := Lib.hid (take_yes a _ _ sl' l2 w1 N hb1 (HS.out _ _ hog ht1) HM2.out)); clear hb1 hog ht1)
    | (go_at_call 68; refine (must_yes _).mono ?_; rintro e w2 ⟨rfl, rfl⟩)
    | (go_at_call 71; refine HTK.out.mono ?_; rintro e w3 ⟨v, rfl, hv, hb2, hog2⟩; have hv3 := hv.og HB1.out (no_u8 (HS.out _ _ HOG.out HT1.out).slice) hog2; have hcv := conv_str (P := Tryz.prog) 26 5 (by kernel_rfl) (by kernel_rfl) hv3.rd rfl 9 (by kernel_rfl); (have HB2 := Lib.hid hb2); (have HOG2 := Lib.hid hog2); clear hv hv3 hb2 hog2))
  go_ret
  obtain ⟨sl2, hb2, ht2⟩ := HB2.out
  exact ⟨rfl, ⟨sl2, hb2, HT1.out.trans ht2⟩, HOG.out.trans HOG2.out⟩
theorem text_no (q : Nat) (most : Int) (hp : w.cell? ⟨p, 0, none⟩ = some (.pointer (some ⟨a, 0, none⟩))) (hq : w.cell? ⟨q, 0, none⟩ = some (.int .i64 most)) (hb : Blk w a 69 [.bool true, .bool false, sl]) (hs : Sl w sl l) (hl : ∀ z ∈ l, z < 256) (hk : ¬TextC most l) :
    Calls Tryz.prog 70 #[.pointer (some ⟨p, 0, none⟩), .pointer (some ⟨q, 0, none⟩)] w fun e w' => e = .panicked [unmet] ∧ (∃ sl', Blk w' a 69 [.bool true, .bool false, sl']) ∧ Og a w w' := by
  by_cases h2 : 2 ≤ l.length
  · have HT := Lib.hid (number_yes a true false sl l w 2 hb hs hl h2 (by omega))
    have hv : be (l.take 2) < 256 ^ 2 := by have := be_lt (l.take 2) (fun x hx => hl x (List.mem_of_mem_take hx)); rwa [List.length_take, Nat.min_eq_left h2] at this
    have hv' : be (l.take 2) < 65536 := Nat.lt_of_lt_of_le hv (by decide)
    have hqa : q ≠ a := by rintro rfl; rw [hb.cell] at hq; cases hq
    have hpa : p ≠ a := by rintro rfl; rw [hb.cell] at hp; cases hp
    have hd : (l.drop 2).length = l.length - 2 := List.length_drop
    obtain ⟨sb, sc, rfl⟩ := hs.len
    have hn8 := no_u8 (x := true) (y := false) (s := .slice sb l.length sc) ⟨_, _, _, rfl⟩
    have hsl : ∀ w1 sl', Og a w w1 → Tl (.slice sb l.length sc) l sl' (l.drop 2) → Sl w1 sl' (l.drop 2) := fun w1 sl' q t => (t w hs).og hb hn8 q
    have HQ := Lib.hid hq
    have HP := Lib.hid hp
    have HS := Lib.hid hsl
    by_cases hm : (be (l.take 2) : Int) ≤ most
    · have hm2 : ¬be (l.take 2) ≤ (l.drop 2).length := fun h => hk ⟨h2, hm, by rw [← hd]; exact h⟩
      clear hb hs hl hv hk hsl hn8 hd
      generalize l.drop 2 = l2 at *
      generalize be (l.take 2) = N at *
      have d1 : decide ((N : Int) ≤ most) = true := by simpa using hm
      go_enter Tryz.func70, Tryz.ntmps70
      go_wp2_with (first
        | (go_at_call 67; refine HT.out.mono ?_; rintro e w1 ⟨rfl, ⟨sl', hb1, ht1⟩, hog⟩; have hq1 : w1.cell? ⟨q, 0, none⟩ = some (.int .i64 most) := hog.cell HQ.out hqa; have hp1 : w1.cell? ⟨p, 0, none⟩ = some (.pointer (some ⟨a, 0, none⟩)) := hog.cell HP.out hpa; obtain ⟨sb', sc', rfl⟩ := (HS.out _ _ hog ht1).len; (have HB1 := Lib.hid hb1); (have HOG := Lib.hid hog); (have HTK := Lib.hid (take_no a _ _ l2 w1 (N : Int) sb' sc' hb1 (.inr (by omega)))); clear hb1 hog ht1)
        | (go_at_call 68; refine (must_yes _).mono ?_; rintro e w2 ⟨rfl, rfl⟩)
        | (go_at_call 71; refine HTK.out.mono ?_; rintro e w3 ⟨rfl, rfl⟩))
      exact ⟨rfl, rfl, ⟨_, HB1.out⟩, HOG.out⟩
    · clear hb hs hl hv hk hsl hn8 hd
      generalize be (l.take 2) = N at *
      have d1 : decide ((N : Int) ≤ most) = false := by simpa using hm
      go_enter Tryz.func70, Tryz.ntmps70
      go_wp2_with (first
        | (go_at_call 67; refine HT.out.mono ?_; rintro e w1 ⟨rfl, ⟨sl', hb1, ht1⟩, hog⟩; have hq1 : w1.cell? ⟨q, 0, none⟩ = some (.int .i64 most) := hog.cell HQ.out hqa; (have HB1 := Lib.hid hb1); (have HOG := Lib.hid hog); clear hb1 hog ht1)
        | (go_at_call 68; refine (must_no _).mono ?_; rintro e w2 ⟨rfl, rfl⟩))
      exact ⟨rfl, rfl, ⟨_, HB1.out⟩, HOG.out⟩
  · have HT := Lib.hid (number_no a true false sl l w 2 hb hs (by omega))
    have HB := Lib.hid hb
    clear hb hs hk hl
    go_enter Tryz.func70, Tryz.ntmps70
    go_wp2_with (go_at_call 67; refine HT.out.mono ?_; rintro e w1 ⟨rfl, rfl⟩)
    exact ⟨rfl, rfl, ⟨_, HB.out⟩, Og.refl _ _⟩
end
theorem Left_dead (p : Value) (w : World) (hd : Dead w p) : Calls Tryz.prog 50 #[p] w fun e w' => e = .returned (.int .i64 0) ∧ Qt w w' := by
  have hmf : ∀ (fn : Fn) (first cap : Array Value) (w : World), (Instr.makeFunc fn first cap).run Tryz.prog w = .ok (.func fn first cap) w := fun _ _ _ _ => rfl
  have HD := Lib.hid (askedI_dead p (.func (.func 90) #[] #[.pointer (some ⟨w.heap.size, 0, none⟩)]) (w.alloc (.cells #[p] 44)) (hd.qt ((Qt.refl w).alloc _)))
  have hq := fun w' (q : Qt (w.alloc (.cells #[p] 44)) w') => ((Qt.refl w).alloc _ : Qt w (w.alloc (.cells #[p] 44))).trans q
  obtain ⟨x, rfl⟩ : ∃ x, p = .pointer x := by rcases hd with rfl | ⟨a, _, _, _, rfl, _⟩ <;> exact ⟨_, rfl⟩
  clear hd
  go_enter Tryz.func50, Tryz.ntmps50
  go_wp2_with (go_at_call 65; refine HD.out.mono ?_; rintro e w' ⟨rfl, q⟩)
  go_ret
  exact ⟨rfl, hq _ q⟩
theorem Left_any (a : Nat) (st : Option (List Nat)) (w : World) (hr : RdA w a st) : Calls Tryz.prog 50 #[.pointer (some ⟨a, 0, none⟩)] w fun e w' => e = .returned (.int .i64 ((leftV st) : Nat)) ∧ RdA w' a (leftN st) ∧ Og a w w' := by
  have hmf : ∀ (fn : Fn) (first cap : Array Value) (w : World), (Instr.makeFunc fn first cap).run Tryz.prog w = .ok (.func fn first cap) w := fun _ _ _ _ => rfl
  have hcf : ∀ args w, (callFunc 90 args).run Tryz.prog w = .ok (.enter 90 args) w := fun _ _ => by kernel_rfl
  cases st with
  | none => exact (Left_dead _ w hr.dead).mono (by rintro e w' ⟨rfl, q⟩; obtain ⟨sl, hb⟩ := hr; exact ⟨rfl, ⟨sl, hb.qt q⟩, q.og⟩)
  | some l =>
    have hr0 : RdS w a l := hr
    obtain ⟨⟨sl, hb, hs⟩, hl⟩ := hr
    obtain ⟨sb, sc, rfl⟩ := hs.len
    have hlt := hb.lt
    have hq0 : Qt w (w.alloc (.cells #[.pointer (some ⟨a, 0, none⟩)] 44)) := (Qt.refl w).alloc _
    have hc0 : ∀ w1, Qt (w.alloc (.cells #[.pointer (some ⟨a, 0, none⟩)] 44)) w1 → w1.cell? ⟨w.heap.size, 0, none⟩ = some (.pointer (some ⟨a, 0, none⟩)) := fun w1 q => (q.cell (p := ⟨w.heap.size, 0, none⟩) (by simp <;> omega)).trans (by simp [go_sem])
    by_cases hk : 0 ≤ l.length
    · have HA := Lib.hid (askedI_met a sb l.length sc 90 #[.pointer (some ⟨w.heap.size, 0, none⟩)] (l.length : Nat) _ (hb.qt hq0) (fun sl' => Tl (.slice sb l.length sc) l sl' l) hcf
        (fun w1 q => (left_yes a w.heap.size _ l w1 (hc0 w1 q) (hb.qt (hq0.trans q)) (hs.qt (hq0.trans q)) hl hk)))
      have fin : ∀ w2, (∃ sl', Blk w2 a 69 [.bool true, .bool false, sl'] ∧ Tl (.slice sb l.length sc) l sl' l) → Og a (w.alloc (.cells #[.pointer (some ⟨a, 0, none⟩)] 44)) w2 → leftV (some l) = (l.length : Nat) ∧ RdA w2 a (leftN (some l)) ∧ Og a w w2 := fun w2 h q =>
        ⟨(if_pos hk : (if 0 ≤ l.length then l.length else 0) = l.length), by rw [leftN, if_pos hk]; exact hr0.behind (fun _ hx => hx) _ hb hs h (hq0.og.trans q), hq0.og.trans q⟩
      have HF := Lib.hid fin
      clear fin hr0 hb hs hl hq0 hc0
      go_enter Tryz.func50, Tryz.ntmps50
      go_wp2_with (go_at_call 65; refine HA.out.mono ?_; rintro e w' ⟨rfl, h, q⟩; (have HH := Lib.hid h); (have HQ := Lib.hid q); clear h q)
      go_ret
      obtain ⟨h1, h2, h3⟩ := HF.out _ HH.out HQ.out
      exact ⟨by rw [h1]; rfl, h2, h3⟩
    · have HA := Lib.hid (askedI_unmet a sb l.length sc 90 #[.pointer (some ⟨w.heap.size, 0, none⟩)] _ (hb.qt hq0) hcf
        (fun w1 q => (left_no a w.heap.size _ l w1 (hc0 w1 q) (hb.qt (hq0.trans q)) (hs.qt (hq0.trans q)) hl hk)))
      have fin : ∀ w2, Blk w2 a 69 [.bool true, .bool true, .slice sb l.length sc] → Og a (w.alloc (.cells #[.pointer (some ⟨a, 0, none⟩)] 44)) w2 → leftV (some l) = leftV none ∧ RdA w2 a (leftN (some l)) ∧ Og a w w2 := fun w2 h q =>
        ⟨absurd (Nat.zero_le _) hk, by rw [leftN, if_neg hk]; exact ⟨_, h⟩, hq0.og.trans q⟩
      have HF := Lib.hid fin
      clear fin hr0 hb hs hl hq0 hc0
      go_enter Tryz.func50, Tryz.ntmps50
      go_wp2_with (go_at_call 65; refine HA.out.mono ?_; rintro e w' ⟨rfl, h, q⟩; (have HH := Lib.hid h); (have HQ := Lib.hid q); clear h q)
      go_ret
      obtain ⟨h1, h2, h3⟩ := HF.out _ HH.out HQ.out
      exact ⟨by rw [h1]; rfl, h2, h3⟩
theorem Text_dead (p : Value) (most : Int) (w : World) (hd : Dead w p) : Calls Tryz.prog 20 #[p, .int .i64 most] w fun e w' => e = .returned (.string ⟨#[]⟩) ∧ Qt w w' := by
  have hmf : ∀ (fn : Fn) (first cap : Array Value) (w : World), (Instr.makeFunc fn first cap).run Tryz.prog w = .ok (.func fn first cap) w := fun _ _ _ _ => rfl
  have HD := Lib.hid (askedS_dead p (.func (.func 70) #[] #[.pointer (some ⟨w.heap.size, 0, none⟩), .pointer (some ⟨w.heap.size + 1, 0, none⟩)]) ((w.alloc (.cells #[p] 44)).alloc (.cells #[.int .i64 most] 3)) (hd.qt (((Qt.refl w).alloc _).alloc _)))
  have hq := fun w' (q : Qt ((w.alloc (.cells #[p] 44)).alloc (.cells #[.int .i64 most] 3)) w') => (((Qt.refl w).alloc _).alloc _ : Qt w ((w.alloc (.cells #[p] 44)).alloc (.cells #[.int .i64 most] 3))).trans q
  obtain ⟨x, rfl⟩ : ∃ x, p = .pointer x := by rcases hd with rfl | ⟨a, _, _, _, rfl, _⟩ <;> exact ⟨_, rfl⟩
  clear hd
  go_enter Tryz.func20, Tryz.ntmps20
  go_wp2_with (go_at_call 69; refine HD.out.mono ?_; rintro e w' ⟨rfl, q⟩)
  go_ret
  exact ⟨rfl, hq _ q⟩
theorem Text_any (a : Nat) (most : Int) (st : Option (List Nat)) (w : World) (hr : RdA w a st) : Calls Tryz.prog 20 #[.pointer (some ⟨a, 0, none⟩), .int .i64 most] w fun e w' => e = .returned (.string (textV most st)) ∧ RdA w' a (textN most st) ∧ Og a w w' := by
  have hmf : ∀ (fn : Fn) (first cap : Array Value) (w : World), (Instr.makeFunc fn first cap).run Tryz.prog w = .ok (.func fn first cap) w := fun _ _ _ _ => rfl
  have hcf : ∀ args w, (callFunc 70 args).run Tryz.prog w = .ok (.enter 70 args) w := fun _ _ => by kernel_rfl
  cases st with
  | none => exact (Text_dead _ most w hr.dead).mono (by rintro e w' ⟨rfl, q⟩; obtain ⟨sl, hb⟩ := hr; exact ⟨rfl, ⟨sl, hb.qt q⟩, q.og⟩)
  | some l =>
    have hr0 : RdS w a l := hr
    obtain ⟨⟨sl, hb, hs⟩, hl⟩ := hr
    obtain ⟨sb, sc, rfl⟩ := hs.len
    have hlt := hb.lt
    have hq0 : Qt w ((w.alloc (.cells #[.pointer (some ⟨a, 0, none⟩)] 44)).alloc (.cells #[.int .i64 most] 3)) := ((Qt.refl w).alloc _).alloc _
    have hc0 : ∀ w1, Qt ((w.alloc (.cells #[.pointer (some ⟨a, 0, none⟩)] 44)).alloc (.cells #[.int .i64 most] 3)) w1 → w1.cell? ⟨w.heap.size, 0, none⟩ = some (.pointer (some ⟨a, 0, none⟩)) := fun w1 q => (q.cell (p := ⟨w.heap.size, 0, none⟩) (by simp <;> omega)).trans (by simp [go_sem])
    have hc1 : ∀ w1, Qt ((w.alloc (.cells #[.pointer (some ⟨a, 0, none⟩)] 44)).alloc (.cells #[.int .i64 most] 3)) w1 → w1.cell? ⟨w.heap.size + 1, 0, none⟩ = some (.int .i64 most) := fun w1 q => (q.cell (p := ⟨w.heap.size + 1, 0, none⟩) (by simp)).trans (by simp [go_sem])
    by_cases hk : TextC most l
    · have HA := Lib.hid (askedS_met a sb l.length sc 70 #[.pointer (some ⟨w.heap.size, 0, none⟩), .pointer (some ⟨w.heap.size + 1, 0, none⟩)] (str ((l.drop 2).take (be (l.take 2)))) _ (hb.qt hq0) (fun sl' => Tl (.slice sb l.length sc) l sl' ((l.drop 2).drop (be (l.take 2)))) hcf
        (fun w1 q => (text_yes a w.heap.size _ l w1 (w.heap.size + 1) most (hc0 w1 q) (hc1 w1 q) (hb.qt (hq0.trans q)) (hs.qt (hq0.trans q)) hl hk)))
      have fin : ∀ w2, (∃ sl', Blk w2 a 69 [.bool true, .bool false, sl'] ∧ Tl (.slice sb l.length sc) l sl' ((l.drop 2).drop (be (l.take 2)))) → Og a ((w.alloc (.cells #[.pointer (some ⟨a, 0, none⟩)] 44)).alloc (.cells #[.int .i64 most] 3)) w2 → textV most (some l) = (str ((l.drop 2).take (be (l.take 2)))) ∧ RdA w2 a (textN most (some l)) ∧ Og a w w2 := fun w2 h q =>
        ⟨congrArg str (if_pos hk), by rw [textN, if_pos hk]; exact hr0.behind (fun x hx => List.mem_of_mem_drop (List.mem_of_mem_drop hx)) _ hb hs h (hq0.og.trans q), hq0.og.trans q⟩
      have HF := Lib.hid fin
      clear fin hr0 hb hs hl hq0 hc0 hc1
      go_enter Tryz.func20, Tryz.ntmps20
      go_wp2_with (go_at_call 69; refine HA.out.mono ?_; rintro e w' ⟨rfl, h, q⟩; (have HH := Lib.hid h); (have HQ := Lib.hid q); clear h q)
      go_ret
      obtain ⟨h1, h2, h3⟩ := HF.out _ HH.out HQ.out
      exact ⟨by rw [h1]; rfl, h2, h3⟩
    · have HA := Lib.hid (askedS_unmet a sb l.length sc 70 #[.pointer (some ⟨w.heap.size, 0, none⟩), .pointer (some ⟨w.heap.size + 1, 0, none⟩)] _ (hb.qt hq0) hcf
        (fun w1 q => (text_no a w.heap.size _ l w1 (w.heap.size + 1) most (hc0 w1 q) (hc1 w1 q) (hb.qt (hq0.trans q)) (hs.qt (hq0.trans q)) hl hk)))
      have fin : ∀ w2, Blk w2 a 69 [.bool true, .bool true, .slice sb l.length sc] → Og a ((w.alloc (.cells #[.pointer (some ⟨a, 0, none⟩)] 44)).alloc (.cells #[.int .i64 most] 3)) w2 → textV most (some l) = textV most none ∧ RdA w2 a (textN most (some l)) ∧ Og a w w2 := fun w2 h q =>
        ⟨congrArg str (if_neg hk), by rw [textN, if_neg hk]; exact ⟨_, h⟩, hq0.og.trans q⟩
      have HF := Lib.hid fin
      clear fin hr0 hb hs hl hq0 hc0 hc1
      go_enter Tryz.func20, Tryz.ntmps20
      go_wp2_with (go_at_call 69; refine HA.out.mono ?_; rintro e w' ⟨rfl, h, q⟩; (have HH := Lib.hid h); (have HQ := Lib.hid q); clear h q)
      go_ret
      obtain ⟨h1, h2, h3⟩ := HF.out _ HH.out HQ.out
      exact ⟨by rw [h1]; rfl, h2, h3⟩
end Go.Proofs.YtajkmblcphdnbaaGreat
