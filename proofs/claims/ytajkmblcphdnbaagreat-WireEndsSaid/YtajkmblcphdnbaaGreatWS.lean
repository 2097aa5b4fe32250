import Derived.Test.YtajkmblcphdnbaaGreatWR
import Derived.Test.YtajkmblcphdnbaaGreatWEY
/-! Raw. -/
namespace Go.Proofs.YtajkmblcphdnbaaGreat
open Go.RowKit
set_option linter.unusedVariables false
set_option linter.unusedSimpArgs false

section
variable (a p : Nat) (sl : Value) (l : List Nat) (w : World)
theorem raw_yes (q k : Nat) (hp : w.cell? ⟨p, 0, none⟩ = some (.pointer (some ⟨a, 0, none⟩))) (hq : w.cell? ⟨q, 0, none⟩ = some (.int .i64 (k : Int))) (hb : Blk w a 69 [.bool true, .bool false, sl]) (hs : Sl w sl l) (hk : k ≤ l.length) :
    Calls Tryz.prog 89 #[.pointer (some ⟨p, 0, none⟩), .pointer (some ⟨q, 0, none⟩)] w fun e w' => ∃ vb vn vc, e = .returned (.slice vb vn vc) ∧ OQ w' w.heap.size 1 (.slice vb vn vc) k (u8s (l.take k)) ∧ (∃ sl', Blk w' a 69 [.bool true, .bool false, sl'] ∧ Tl sl l sl' (l.drop k)) ∧ Og a w w' := by
  have HT := Lib.hid (take_yes a (.bool true) (.bool false) sl l w k hb hs hk)
  have hn8 := no_u8 (x := true) (y := false) (s := sl) hs.slice
  have HV := Lib.hid (fun w1 v l' (h : Sl w v l') (q : Og a w w1) => h.og hb hn8 q)
  have hlt := hb.lt
  have he : (l.take k).length = k := by rw [List.length_take]; omega
  have HE := Lib.hid he
  clear hb hs hn8 he
  go_enter Tryz.func89, Tryz.ntmps89
  go_wp2_with (first
    | (go_at_call 71; refine HT.out.mono ?_; rintro e w1 ⟨v, rfl, hv, hb1, hog⟩; (have HC := Lib.hid (clone_any v (l.take k) w1 (HV.out _ _ _ hv hog))); (have HB1 := Lib.hid hb1); (have HOG := Lib.hid hog); clear hv hb1 hog)
    | (go_at_call 42; refine HC.out.mono ?_; rintro e w2 ⟨r, rfl, ho, hq2⟩; (have HO := Lib.hid ho); (have HQ2 := Lib.hid hq2); clear ho hq2))
  go_ret
  obtain ⟨sl', hb1, ht⟩ := HB1.out
  have ho := HO.out
  rw [HE.out] at ho
  obtain ⟨vb, vc, rfl⟩ := ho.slice
  exact ⟨_, _, _, rfl, ho.lower HOG.out.size, ⟨sl', hb1.qt HQ2.out, ht⟩, HOG.out.trans HQ2.out.og⟩
theorem raw_no (q : Nat) (n : Int) (hp : w.cell? ⟨p, 0, none⟩ = some (.pointer (some ⟨a, 0, none⟩))) (hq : w.cell? ⟨q, 0, none⟩ = some (.int .i64 n)) (hb : Blk w a 69 [.bool true, .bool false, sl]) (hs : Sl w sl l) (hn : n < 0 ∨ (l.length : Int) < n) :
    Calls Tryz.prog 89 #[.pointer (some ⟨p, 0, none⟩), .pointer (some ⟨q, 0, none⟩)] w fun e w' => e = .panicked [unmet] ∧ w = w' := by
  obtain ⟨sb, sc, rfl⟩ := hs.len
  have HT := Lib.hid (take_no a (.bool true) (.bool false) l w n sb sc hb hn)
  clear hb hs hn
  go_enter Tryz.func89, Tryz.ntmps89
  go_wp2_with (go_at_call 71; refine HT.out.mono ?_; rintro e w1 ⟨rfl, rfl⟩)
  exact ⟨rfl, rfl, rfl⟩
end
def RawC (n : Int) (l : List Nat) : Prop := 0 ≤ n ∧ n ≤ (l.length : Int)
instance (n : Int) (l : List Nat) : Decidable (RawC n l) := inferInstanceAs (Decidable (_ ∧ _))
def rawB (n : Int) : Option (List Nat) → List Nat
  | some l => if RawC n l then l.take n.toNat else []
  | none => []
def rawN (n : Int) : Option (List Nat) → Option (List Nat)
  | some l => if RawC n l then some (l.drop n.toNat) else none
  | none => none
theorem OQ.drewSet {w : World} {base b : Nat} {v : Value} {n : Nat} {xs : List Value} (h : OQ w base 1 v n xs) (hb : b < base) (x : Value) : OQ (w.setCell ⟨b, 0, none⟩ x).drew base 1 v n xs :=
  (h.far (p := ⟨b, 0, none⟩) (fun e => by have := (h.lt b e).1; omega) x).drew

theorem Raw_dead (p : Value) (n : Int) (w : World) (hd : Dead w p) : Calls Tryz.prog 49 #[p, .int .i64 n] w fun e w' => e = .returned (.slice none 0 0) ∧ Qt w w' := by
  have hmf : ∀ (fn : Fn) (first cap : Array Value) (w : World), (Instr.makeFunc fn first cap).run Tryz.prog w = .ok (.func fn first cap) w := fun _ _ _ _ => rfl
  have HD := Lib.hid (askedY_dead p (.func (.func 89) #[] #[.pointer (some ⟨w.heap.size, 0, none⟩), .pointer (some ⟨w.heap.size + 1, 0, none⟩)]) ((w.alloc (.cells #[p] 44)).alloc (.cells #[.int .i64 n] 3)) (hd.qt (((Qt.refl w).alloc _).alloc _)))
  have hq := fun w' (q : Qt ((w.alloc (.cells #[p] 44)).alloc (.cells #[.int .i64 n] 3)) w') => (((Qt.refl w).alloc _).alloc _ : Qt w ((w.alloc (.cells #[p] 44)).alloc (.cells #[.int .i64 n] 3))).trans q
  obtain ⟨x, rfl⟩ : ∃ x, p = .pointer x := by rcases hd with rfl | ⟨a, _, _, _, rfl, _⟩ <;> exact ⟨_, rfl⟩
  clear hd
  go_enter Tryz.func49, Tryz.ntmps49
  go_wp2_with (go_at_call 88; refine HD.out.mono ?_; rintro e w' ⟨rfl, q⟩)
  go_ret
  exact ⟨rfl, hq _ q⟩
set_option maxHeartbeats 1000000 in
theorem Raw_any (a : Nat) (n : Int) (st : Option (List Nat)) (w : World) (hr : RdA w a st) : Calls Tryz.prog 49 #[.pointer (some ⟨a, 0, none⟩), .int .i64 n] w fun e w' => ∃ r, e = .returned r ∧ OQ w' w.heap.size 1 r (rawB n st).length (u8s (rawB n st)) ∧ RdA w' a (rawN n st) ∧ Og a w w' := by
  have hmf : ∀ (fn : Fn) (first cap : Array Value) (w : World), (Instr.makeFunc fn first cap).run Tryz.prog w = .ok (.func fn first cap) w := fun _ _ _ _ => rfl
  have hcf : ∀ args w, (callFunc 89 args).run Tryz.prog w = .ok (.enter 89 args) w := fun _ _ => by kernel_rfl
  cases st with
  | none => exact (Raw_dead _ n w hr.dead).mono (by rintro e w' ⟨rfl, q⟩; obtain ⟨sl, hb⟩ := hr; exact ⟨_, rfl, OQ.nil _ _ _, ⟨sl, hb.qt q⟩, q.og⟩)
  | some l =>
    have hr0 : RdS w a l := hr
    obtain ⟨⟨sl, hb, hs⟩, hl⟩ := hr
    obtain ⟨sb, sc, rfl⟩ := hs.len
    have hlt := hb.lt
    have hq0 : Qt w ((w.alloc (.cells #[.pointer (some ⟨a, 0, none⟩)] 44)).alloc (.cells #[.int .i64 n] 3)) := ((Qt.refl w).alloc _).alloc _
    have hsz : ((w.alloc (.cells #[.pointer (some ⟨a, 0, none⟩)] 44)).alloc (.cells #[.int .i64 n] 3)).heap.size = w.heap.size + 2 := by simp
    have hc0 : ((w.alloc (.cells #[.pointer (some ⟨a, 0, none⟩)] 44)).alloc (.cells #[.int .i64 n] 3)).cell? ⟨w.heap.size, 0, none⟩ = some (.pointer (some ⟨a, 0, none⟩)) := by simp [go_sem]
    have hc1 : ((w.alloc (.cells #[.pointer (some ⟨a, 0, none⟩)] 44)).alloc (.cells #[.int .i64 n] 3)).cell? ⟨w.heap.size + 1, 0, none⟩ = some (.int .i64 n) := by simp [go_sem]
    have hW : ∃ W, (w.alloc (.cells #[.pointer (some ⟨a, 0, none⟩)] 44)).alloc (.cells #[.int .i64 n] 3) = W := ⟨_, rfl⟩
    obtain ⟨W, hW⟩ := hW
    rw [hW] at hq0 hsz hc0 hc1
    have hd0 : ∀ w1, Qt W w1 → w1.cell? ⟨w.heap.size, 0, none⟩ = some (.pointer (some ⟨a, 0, none⟩)) := fun w1 q => (q.cell (p := ⟨w.heap.size, 0, none⟩) (by show w.heap.size < _; omega)).trans hc0
    have hd1 : ∀ w1, Qt W w1 → w1.cell? ⟨w.heap.size + 1, 0, none⟩ = some (.int .i64 n) := fun w1 q => (q.cell (p := ⟨w.heap.size + 1, 0, none⟩) (by show w.heap.size + 1 < _; omega)).trans hc1
    by_cases hk : RawC n l
    · obtain ⟨k, rfl⟩ := Int.eq_ofNat_of_zero_le hk.1
      have hkl : k ≤ l.length := by have := hk.2; omega
      have HA := askedY_met a sb l.length sc 89 #[.pointer (some ⟨w.heap.size, 0, none⟩), .pointer (some ⟨w.heap.size + 1, 0, none⟩)] W (hb.qt hq0) (fun sl' => Tl (.slice sb l.length sc) l sl' (l.drop k)) (fun v w2 => OQ w2 (W.heap.size + 3) 1 v k (u8s (l.take k))) (fun v w2 x h => h.drewSet (by omega) x) hcf
        (fun w1 q hs1 => (raw_yes a w.heap.size _ l w1 (w.heap.size + 1) k (hd0 w1 q) (hd1 w1 q) (hb.qt (hq0.trans q)) (hs.qt (hq0.trans q)) hkl).mono (by rintro e w2 ⟨vb, vn, vc, rfl, ho, h⟩; exact ⟨vb, vn, vc, rfl, ho.lower hs1, h⟩))
      have e1 : rawB (k : Int) (some l) = l.take k := by rw [rawB, if_pos hk]; rfl
      have e2 : rawN (k : Int) (some l) = some (l.drop k) := by rw [rawN, if_pos hk]; rfl
      have e3 : (l.take k).length = k := by rw [List.length_take]; omega
      rw [e1, e2, e3]
      have fin : ∀ w2, (∃ sl', Blk w2 a 69 [.bool true, .bool false, sl'] ∧ Tl (.slice sb l.length sc) l sl' (l.drop k)) → Og a W w2 → RdA w2 a (some (l.drop k)) ∧ Og a w w2 := fun w2 h q =>
        ⟨hr0.behind (fun x hx => List.mem_of_mem_drop hx) _ hb hs h (hq0.og.trans q), hq0.og.trans q⟩
      have hWs := hq0.size
      subst hW
      have HA' := Lib.hid HA
      have HF := Lib.hid fin
      clear HA fin hr0 hb hs hl hq0 hc0 hc1 hd0 hd1 e1 e2 e3 hk hsz
      go_enter Tryz.func49, Tryz.ntmps49
      go_wp2_with (go_at_call 88; refine HA'.out.mono ?_; rintro e w' ⟨vb, vn, vc, rfl, ho, h, q⟩; (have HO := Lib.hid ho); (have HH := Lib.hid h); (have HQ := Lib.hid q); clear ho h q)
      go_ret
      obtain ⟨h2, h3⟩ := HF.out _ HH.out HQ.out
      exact ⟨_, rfl, HO.out.lower (by simp at hWs ⊢; omega), h2, h3⟩
    · have hkn : n < 0 ∨ (l.length : Int) < n := by unfold RawC at hk; omega
      have HA := askedY_unmet a sb l.length sc 89 #[.pointer (some ⟨w.heap.size, 0, none⟩), .pointer (some ⟨w.heap.size + 1, 0, none⟩)] W (hb.qt hq0) hcf
        (fun w1 q => (raw_no a w.heap.size _ l w1 (w.heap.size + 1) n (hd0 w1 q) (hd1 w1 q) (hb.qt (hq0.trans q)) (hs.qt (hq0.trans q)) hkn).mono (by rintro e w2 ⟨rfl, rfl⟩; exact ⟨rfl, ⟨_, hb.qt (hq0.trans q)⟩, Og.refl _ _⟩))
      have e1 : rawB n (some l) = [] := by rw [rawB, if_neg hk]
      have e2 : rawN n (some l) = none := by rw [rawN, if_neg hk]
      rw [e1, e2]
      have HQ0 := Lib.hid hq0
      subst hW
      have HA' := Lib.hid HA
      clear HA hr0 hb hs hl hq0 hc0 hc1 hd0 hd1 e1 e2 hk hsz hkn
      go_enter Tryz.func49, Tryz.ntmps49
      go_wp2_with (go_at_call 88; refine HA'.out.mono ?_; rintro e w' ⟨rfl, h, q⟩; (have HH := Lib.hid h); (have HQ := Lib.hid q); clear h q)
      go_ret
      exact ⟨_, rfl, OQ.nil _ _ _, ⟨_, HH.out⟩, HQ0.out.og.trans HQ.out⟩
end Go.Proofs.YtajkmblcphdnbaaGreat
