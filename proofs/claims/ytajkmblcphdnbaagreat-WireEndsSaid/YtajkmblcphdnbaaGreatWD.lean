import Derived.Test.YtajkmblcphdnbaaGreatWC
/-! asked[int]. -/
namespace Go.Proofs.YtajkmblcphdnbaaGreat
open Go.RowKit
set_option linter.unusedVariables false
set_option linter.unusedSimpArgs false

theorem askedI_dead (p f : Value) (w : World) (hd : Dead w p) : Calls Tryz.prog 65 #[p, f] w fun e w' => e = .returned (.int .i64 0) ∧ Qt w w' := by
  have fin : ∀ o o', Qt w ((w.alloc o).alloc o') := fun o o' => ((Qt.refl w).alloc o).alloc o'
  rcases hd with rfl | ⟨a, m, b, sl, rfl, hb, h⟩
  · go_enter_defers Tryz.func65, Tryz.ntmps65
    go_wp2
    simp [bodyPostD, Leaves, results, Tryz.results65, go_sem]
    exact fin _ _
  · have c0 : ∀ o o', ((w.alloc o).alloc o').cell? ⟨a, 0, none⟩ = some (.bool m) := fun o o' => ((hb.alloc o).alloc o').cell 0
    have c1 : ∀ o o', ((w.alloc o).alloc o').cell? ⟨a, 1, none⟩ = some (.bool b) := fun o o' => ((hb.alloc o).alloc o').cell 1
    clear hb
    cases m with
    | false =>
      clear h
      go_enter_defers Tryz.func65, Tryz.ntmps65
      go_wp2
      simp [bodyPostD, Leaves, results, Tryz.results65, go_sem]
      exact fin _ _
    | true =>
      obtain rfl : b = true := by simpa using h
      clear h
      go_enter_defers Tryz.func65, Tryz.ntmps65
      go_wp2
      simp [bodyPostD, Leaves, results, Tryz.results65, go_sem]
      exact fin _ _

set_option maxRecDepth 100000 in
theorem askedI_met (a : Nat) (sb : Option Addr) (sn sc : Nat) (K : FuncId) (caps : Array Value) (v : Int) (w : World) (hb : Blk w a 69 [.bool true, .bool false, .slice sb sn sc]) (S : Value → Prop) (hcf : ∀ args w, (callFunc K args).run Tryz.prog w = .ok (.enter K args) w)
    (hk : ∀ w1, Qt w w1 → Calls Tryz.prog K caps w1 fun e w2 => e = .returned (.int .i64 v) ∧ (∃ sl, Blk w2 a 69 [.bool true, .bool false, sl] ∧ S sl) ∧ Og a w1 w2) :
    Calls Tryz.prog 65 #[.pointer (some ⟨a, 0, none⟩), .func (.func K) #[] caps] w fun e w' => e = .returned (.int .i64 v) ∧ (∃ sl, Blk w' a 69 [.bool true, .bool false, sl] ∧ S sl) ∧ Og a w w' := by
  have hmf : ∀ (fn : Fn) (first cap : Array Value) (w : World), (Instr.makeFunc fn first cap).run Tryz.prog w = .ok (.func fn first cap) w := fun _ _ _ _ => rfl
  have c0 : ∀ o o', ((w.alloc o).alloc o').cell? ⟨a, 0, none⟩ = some (.bool true) := fun o o' => ((hb.alloc o).alloc o').cell 0
  have c1 : ∀ o o', ((w.alloc o).alloc o').cell? ⟨a, 1, none⟩ = some (.bool false) := fun o o' => ((hb.alloc o).alloc o').cell 1
  have c2 : ∀ o o', ((w.alloc o).alloc o').cell? ⟨a, 2, none⟩ = some (.slice sb sn sc) := fun o o' => ((hb.alloc o).alloc o').cell 2
  have fin : ∀ o o' o'', Qt w (((w.alloc o).alloc o').alloc o'') := fun o o' o'' => (((Qt.refl w).alloc o).alloc o').alloc o''
  have hlt := hb.lt
  have HK := Lib.hid hk
  have HF := Lib.hid fin
  have HB := Lib.hid hb
  clear hk fin hb
  go_enter_defers Tryz.func65, Tryz.ntmps65
  go_wp2_with fail
  refine (HK.out _ (HF.out _ _ _)).mono ?_
  rintro e w2 ⟨rfl, ⟨sl, hb2, hS⟩, hog⟩
  have d1 : w2.cell? ⟨w.heap.size + 1, 0, none⟩ = some (.int .i64 0) := hog.cell (by simp [go_sem]) (by show w.heap.size + 1 ≠ a; omega)
  have d2 : w2.frozen? ⟨w.heap.size + 1, 0, none⟩ = false := hog.frozen (by simp [go_sem]) (by simp) (by show w.heap.size + 1 ≠ a; omega)
  have HB2 := Lib.hid hb2
  have HOG := Lib.hid hog
  clear hb2 hog
  go_wp2
  refine leaves_cons (f := 95) (args := #[.pointer (some ⟨w.heap.size, 0, none⟩), .pointer (some ⟨w.heap.size + 1 + 1, 0, none⟩), .pointer (some ⟨w.heap.size + 1, 0, none⟩)]) (by simp) (by simp [go_sem]) ?_
  have hne : a ≠ w.heap.size + 1 := by omega
  have hp : w2.cell? ⟨w.heap.size, 0, none⟩ = some (.pointer (some ⟨a, 0, none⟩)) := HOG.out.cell (by simp [go_sem]) (by show w.heap.size ≠ a; omega)
  refine (catchI_idle a w.heap.size (.bool true) sl _ (HB2.out.far hne _) (by simp [go_sem, hp]) _ _).mono ?_
  rintro e u' w'' ⟨rfl, rfl, rfl⟩
  have e1 : (w2.setCell ⟨w.heap.size + 1, 0, none⟩ (.int .i64 v)).drew.cell? ⟨w.heap.size + 1, 0, none⟩ = some (.int .i64 v) := by simp [go_sem, d1]
  simp [Leaves, settle, results, Tryz.results65, go_sem, e1]
  exact ⟨⟨sl, HB2.out.far hne _, hS⟩, (((HF.out _ _ _).og.trans HOG.out).setCell (.inr (by simp)) _).drew⟩
set_option maxRecDepth 100000 in
theorem askedI_unmet (a : Nat) (sb : Option Addr) (sn sc : Nat) (K : FuncId) (caps : Array Value) (w : World) (hb : Blk w a 69 [.bool true, .bool false, .slice sb sn sc]) (hcf : ∀ args w, (callFunc K args).run Tryz.prog w = .ok (.enter K args) w)
    (hk : ∀ w1, Qt w w1 → Calls Tryz.prog K caps w1 fun e w2 => e = .panicked [unmet] ∧ (∃ sl, Blk w2 a 69 [.bool true, .bool false, sl]) ∧ Og a w1 w2) :
    Calls Tryz.prog 65 #[.pointer (some ⟨a, 0, none⟩), .func (.func K) #[] caps] w fun e w' => e = .returned (.int .i64 0) ∧ Blk w' a 69 [.bool true, .bool true, .slice sb sn sc] ∧ Og a w w' := by
  have hmf : ∀ (fn : Fn) (first cap : Array Value) (w : World), (Instr.makeFunc fn first cap).run Tryz.prog w = .ok (.func fn first cap) w := fun _ _ _ _ => rfl
  have c0 : ∀ o o', ((w.alloc o).alloc o').cell? ⟨a, 0, none⟩ = some (.bool true) := fun o o' => ((hb.alloc o).alloc o').cell 0
  have c1 : ∀ o o', ((w.alloc o).alloc o').cell? ⟨a, 1, none⟩ = some (.bool false) := fun o o' => ((hb.alloc o).alloc o').cell 1
  have c2 : ∀ o o', ((w.alloc o).alloc o').cell? ⟨a, 2, none⟩ = some (.slice sb sn sc) := fun o o' => ((hb.alloc o).alloc o').cell 2
  have fin : ∀ o o' o'', Qt w (((w.alloc o).alloc o').alloc o'') := fun o o' o'' => (((Qt.refl w).alloc o).alloc o').alloc o''
  have hlt := hb.lt
  have HK := Lib.hid hk
  have HF := Lib.hid fin
  have HB := Lib.hid hb
  clear hk fin hb
  go_enter_defers Tryz.func65, Tryz.ntmps65
  go_wp2_with fail
  refine (HK.out _ (HF.out _ _ _)).mono ?_
  rintro e w2 ⟨rfl, ⟨sl, hb2⟩, hog⟩
  have d1 : w2.cell? ⟨w.heap.size + 1, 0, none⟩ = some (.int .i64 0) := hog.cell (by simp [go_sem]) (by show w.heap.size + 1 ≠ a; omega)
  have d2 : w2.frozen? ⟨w.heap.size + 1, 0, none⟩ = false := hog.frozen (by simp [go_sem]) (by simp) (by show w.heap.size + 1 ≠ a; omega)
  have d3 : w2.cell? ⟨w.heap.size + 1 + 1, 0, none⟩ = some (.slice sb sn sc) := hog.cell (by simp [go_sem]) (by show w.heap.size + 1 + 1 ≠ a; omega)
  have HB2 := Lib.hid hb2
  have HOG := Lib.hid hog
  clear hb2 hog
  go_wp2
  refine leaves_cons (f := 95) (args := #[.pointer (some ⟨w.heap.size, 0, none⟩), .pointer (some ⟨w.heap.size + 1 + 1, 0, none⟩), .pointer (some ⟨w.heap.size + 1, 0, none⟩)]) (by simp) (by simp [go_sem]) ?_
  have hp : w2.cell? ⟨w.heap.size, 0, none⟩ = some (.pointer (some ⟨a, 0, none⟩)) := HOG.out.cell (by simp [go_sem]) (by show w.heap.size ≠ a; omega)
  refine (catchI_unmet a w.heap.size (w.heap.size + 1 + 1) (w.heap.size + 1) (.bool true) (.bool false) sl (.int .i64 0) sb sn sc w2 [] HB2.out hp d3 d1 d2 hlt (by omega) (by omega)).mono ?_
  rintro e u' w'' ⟨rfl, rfl, h1, h2, h3⟩
  simp [Leaves, settle, results, Tryz.results65, go_sem, h2]
  exact ⟨h1, h3 w ((HF.out _ _ _).og.trans HOG.out) (by omega)⟩
end Go.Proofs.YtajkmblcphdnbaaGreat
