import Derived.Test.YtajkmblcphdnbaaGreatWD
/-! asked[bool]: printed by genwire.py. -/
namespace Go.Proofs.YtajkmblcphdnbaaGreat
open Go.RowKit
set_option linter.unusedVariables false
set_option linter.unusedSimpArgs false

section
variable (a p q o : Nat) (x y sl u : Value) (sb : Option Addr) (sn sc : Nat) (w : World)
theorem catchB_unmet (older : List PanicEntry) (hb : Blk w a 69 [x, y, sl]) (hp : w.cell? ⟨p, 0, none⟩ = some (.pointer (some ⟨a, 0, none⟩))) (hq : w.cell? ⟨q, 0, none⟩ = some (.slice sb sn sc))
    (ho : w.cell? ⟨o, 0, none⟩ = some u) (hf : w.frozen? ⟨o, 0, none⟩ = false) (hap : a < p) (haq : a < q) (hao : a < o) :
    CallsD Tryz.prog 97 #[.pointer (some ⟨p, 0, none⟩), .pointer (some ⟨q, 0, none⟩), .pointer (some ⟨o, 0, none⟩)] (.panicking (unmet :: older)) w fun e u' w' =>
      e = .returned (.tuple #[]) ∧ u' = .panicking ({ unmet with recovered := true } :: older) ∧ Blk w' a 69 [x, .bool true, .slice sb sn sc] ∧ w'.cell? ⟨o, 0, none⟩ = some (.bool false) ∧ ∀ w0, Og a w0 w → w0.heap.size ≤ o → Og a w0 w' := by
  refine callsD_of_wpS Tryz.func97 rfl fun c₀ cs hu => ?_
  apply wpS_seq
  refine wpS_region_draw (by kernel_rfl) [[0, 1, 2, 3, 4], [0, 1, 3, 2, 4], [0, 3, 1, 2, 4], [3, 0, 1, 2, 4]] (by kernel_rfl) ?_
  have hp' : w.drew.cell? ⟨p, 0, none⟩ = some (.pointer (some ⟨a, 0, none⟩)) := hp
  have hcb : Blk w.drew a 69 [x, y, sl] := hb
  simp only [List.mem_cons, List.not_mem_nil, or_false, forall_eq_or_imp, forall_eq]
  have hne : ¬ a = o := by omega
  have hne' : ¬ o = a := by omega
  refine ⟨?_, ?_, ?_, ?_⟩
  all_goals
    simp [wpOpsS, go_sem, recoverD, hu, Tryz.ntmps97, Exit.thenS, hp', unmet]
    refine (caught_unmet a _ x y [sl] _ hcb).mono ?_
    rintro e w1 ⟨rfl, hb1, hog⟩
    have c0 : w1.cell? ⟨p, 0, none⟩ = some (.pointer (some ⟨a, 0, none⟩)) := hog.cell hp (by show p ≠ a; omega)
    have c1 : w1.cell? ⟨q, 0, none⟩ = some (.slice sb sn sc) := hog.cell hq (by show q ≠ a; omega)
    have c2 : w1.cell? ⟨o, 0, none⟩ = some u := hog.cell ho (by show o ≠ a; omega)
    have c3 : w1.frozen? ⟨o, 0, none⟩ = false := hog.frozen hf (blk_of_cell ho) (by show o ≠ a; omega)
    have c4 : w1.cell? ⟨a, 1, none⟩ = some (.bool true) := hb1.cell 1
    have c5 : w1.cell? ⟨a, 2, none⟩ = some sl := hb1.cell 2
    have c6 : w1.frozen? ⟨a, 2, none⟩ = false := hb1.frozen 2
    have HB := Lib.hid hb1
    have HO := Lib.hid hog
    clear hb hcb hb1 hog hp hp' hq ho hf
    refine wpS_of_wp ?_
    simp only [Array.replicate_succ, Array.replicate_zero, List.push_toArray, List.setIfInBounds_toArray, List.append_toArray, List.nil_append, List.cons_append, List.set_cons_succ, List.set_cons_zero]
    go_wp2
    refine ⟨rfl, _, rfl, .tuple #[], by simp [results, Tryz.results97, go_sem], rfl, rfl, (HB.out.set 2 _).far hne _, ?_, fun w0 h0 hs => ?_⟩
    · simp [go_sem, c2]
    · exact ((h0.drew.trans HO.out).setCell (.inl rfl) _).setCell (.inr hs) _
theorem catchB_idle (hb : Blk w a 69 [x, .bool false, sl]) (hp : w.cell? ⟨p, 0, none⟩ = some (.pointer (some ⟨a, 0, none⟩))) (q' o' : Value) :
    CallsD Tryz.prog 97 #[.pointer (some ⟨p, 0, none⟩), q', o'] .returning w fun e u' w' => e = .returned (.tuple #[]) ∧ u' = .returning ∧ w' = w.drew := by
  refine callsD_of_wpS Tryz.func97 rfl fun c₀ cs hu => ?_
  apply wpS_seq
  refine wpS_region_draw (by kernel_rfl) [[0, 1, 2, 3, 4], [0, 1, 3, 2, 4], [0, 3, 1, 2, 4], [3, 0, 1, 2, 4]] (by kernel_rfl) ?_
  have hp' : w.drew.cell? ⟨p, 0, none⟩ = some (.pointer (some ⟨a, 0, none⟩)) := hp
  have c4 : w.drew.cell? ⟨a, 1, none⟩ = some (.bool false) := hb.cell 1
  simp only [List.mem_cons, List.not_mem_nil, or_false, forall_eq_or_imp, forall_eq]
  refine ⟨?_, ?_, ?_, ?_⟩
  all_goals
    simp [wpOpsS, go_sem, recoverD, hu, Tryz.ntmps97, Exit.thenS, hp']
    refine (caught_nil _ _).mono ?_
    rintro e w1 ⟨rfl, rfl⟩
    refine wpS_of_wp ?_
    simp only [Array.replicate_succ, Array.replicate_zero, List.push_toArray, List.setIfInBounds_toArray, List.append_toArray, List.nil_append, List.cons_append, List.set_cons_succ, List.set_cons_zero]
    go_wp2
    cases c₀
    simp_all [bodyPostS, results, Tryz.results97]
end
theorem askedB_dead (p f : Value) (w : World) (hd : Dead w p) : Calls Tryz.prog 72 #[p, f] w fun e w' => e = .returned (.bool false) ∧ Qt w w' := by
  have fin : ∀ o o', Qt w ((w.alloc o).alloc o') := fun o o' => ((Qt.refl w).alloc o).alloc o'
  rcases hd with rfl | ⟨a, m, b, sl, rfl, hb, h⟩
  · go_enter_defers Tryz.func72, Tryz.ntmps72
    go_wp2
    simp [bodyPostD, Leaves, results, Tryz.results72, go_sem]
    exact fin _ _
  · have c0 : ∀ o o', ((w.alloc o).alloc o').cell? ⟨a, 0, none⟩ = some (.bool m) := fun o o' => ((hb.alloc o).alloc o').cell 0
    have c1 : ∀ o o', ((w.alloc o).alloc o').cell? ⟨a, 1, none⟩ = some (.bool b) := fun o o' => ((hb.alloc o).alloc o').cell 1
    clear hb
    cases m with
    | false =>
      clear h
      go_enter_defers Tryz.func72, Tryz.ntmps72
      go_wp2
      simp [bodyPostD, Leaves, results, Tryz.results72, go_sem]
      exact fin _ _
    | true =>
      obtain rfl : b = true := by simpa using h
      clear h
      go_enter_defers Tryz.func72, Tryz.ntmps72
      go_wp2
      simp [bodyPostD, Leaves, results, Tryz.results72, go_sem]
      exact fin _ _

set_option maxRecDepth 100000 in
theorem askedB_met (a : Nat) (sb : Option Addr) (sn sc : Nat) (K : FuncId) (caps : Array Value) (v : Bool) (w : World) (hb : Blk w a 69 [.bool true, .bool false, .slice sb sn sc]) (S : Value → Prop) (hcf : ∀ args w, (callFunc K args).run Tryz.prog w = .ok (.enter K args) w)
    (hk : ∀ w1, Qt w w1 → Calls Tryz.prog K caps w1 fun e w2 => e = .returned (.bool v) ∧ (∃ sl, Blk w2 a 69 [.bool true, .bool false, sl] ∧ S sl) ∧ Og a w1 w2) :
    Calls Tryz.prog 72 #[.pointer (some ⟨a, 0, none⟩), .func (.func K) #[] caps] w fun e w' => e = .returned (.bool v) ∧ (∃ sl, Blk w' a 69 [.bool true, .bool false, sl] ∧ S sl) ∧ Og a w w' := by
  have hmf : ∀ (fn : Fn) (first cap : Array Value) (w : World), (Instr.makeFunc fn first cap).run Tryz.prog w = .ok (.func fn first cap) w := fun _ _ _ _ => rfl
  have c0 : ∀ o o', ((w.alloc o).alloc o').cell? ⟨a, 0, none⟩ = some (.bool true) := fun o o' => ((hb.alloc o).alloc o').cell 0
  have c1 : ∀ o o', ((w.alloc o).alloc o').cell? ⟨a, 1, none⟩ = some (.bool false) := fun o o' => ((hb.alloc o).alloc o').cell 1
  have c2 : ∀ o o', ((w.alloc o).alloc o').cell? ⟨a, 2, none⟩ = some (.slice sb sn sc) := fun o o' => ((hb.alloc o).alloc o').cell 2
  have fin : ∀ o o' o'', Qt w (((w.alloc o).alloc o').alloc o'') := fun o o' o'' => (((Qt.refl w).alloc o).alloc o').alloc o''
  have hlt := hb.lt
  have HK := Lib.hid hk
  have HF := Lib.hid fin
  have HB := Lib.hid hb
  clear hk fin hb
  go_enter_defers Tryz.func72, Tryz.ntmps72
  go_wp2_with fail
  refine (HK.out _ (HF.out _ _ _)).mono ?_
  rintro e w2 ⟨rfl, ⟨sl, hb2, hS⟩, hog⟩
  have d1 : w2.cell? ⟨w.heap.size + 1, 0, none⟩ = some (.bool false) := hog.cell (by simp [go_sem]) (by show w.heap.size + 1 ≠ a; omega)
  have d2 : w2.frozen? ⟨w.heap.size + 1, 0, none⟩ = false := hog.frozen (by simp [go_sem]) (by simp) (by show w.heap.size + 1 ≠ a; omega)
  have HB2 := Lib.hid hb2
  have HOG := Lib.hid hog
  clear hb2 hog
  go_wp2
  refine leaves_cons (f := 97) (args := #[.pointer (some ⟨w.heap.size, 0, none⟩), .pointer (some ⟨w.heap.size + 1 + 1, 0, none⟩), .pointer (some ⟨w.heap.size + 1, 0, none⟩)]) (by simp) (by simp [go_sem]) ?_
  have hne : a ≠ w.heap.size + 1 := by omega
  have hp : w2.cell? ⟨w.heap.size, 0, none⟩ = some (.pointer (some ⟨a, 0, none⟩)) := HOG.out.cell (by simp [go_sem]) (by show w.heap.size ≠ a; omega)
  refine (catchB_idle a w.heap.size (.bool true) sl _ (HB2.out.far hne _) (by simp [go_sem, hp]) _ _).mono ?_
  rintro e u' w'' ⟨rfl, rfl, rfl⟩
  have e1 : (w2.setCell ⟨w.heap.size + 1, 0, none⟩ (.bool v)).drew.cell? ⟨w.heap.size + 1, 0, none⟩ = some (.bool v) := by simp [go_sem, d1]
  simp [Leaves, settle, results, Tryz.results72, go_sem, e1]
  exact ⟨⟨sl, HB2.out.far hne _, hS⟩, (((HF.out _ _ _).og.trans HOG.out).setCell (.inr (by simp)) _).drew⟩
set_option maxRecDepth 100000 in
theorem askedB_unmet (a : Nat) (sb : Option Addr) (sn sc : Nat) (K : FuncId) (caps : Array Value) (w : World) (hb : Blk w a 69 [.bool true, .bool false, .slice sb sn sc]) (hcf : ∀ args w, (callFunc K args).run Tryz.prog w = .ok (.enter K args) w)
    (hk : ∀ w1, Qt w w1 → Calls Tryz.prog K caps w1 fun e w2 => e = .panicked [unmet] ∧ (∃ sl, Blk w2 a 69 [.bool true, .bool false, sl]) ∧ Og a w1 w2) :
    Calls Tryz.prog 72 #[.pointer (some ⟨a, 0, none⟩), .func (.func K) #[] caps] w fun e w' => e = .returned (.bool false) ∧ Blk w' a 69 [.bool true, .bool true, .slice sb sn sc] ∧ Og a w w' := by
  have hmf : ∀ (fn : Fn) (first cap : Array Value) (w : World), (Instr.makeFunc fn first cap).run Tryz.prog w = .ok (.func fn first cap) w := fun _ _ _ _ => rfl
  have c0 : ∀ o o', ((w.alloc o).alloc o').cell? ⟨a, 0, none⟩ = some (.bool true) := fun o o' => ((hb.alloc o).alloc o').cell 0
  have c1 : ∀ o o', ((w.alloc o).alloc o').cell? ⟨a, 1, none⟩ = some (.bool false) := fun o o' => ((hb.alloc o).alloc o').cell 1
  have c2 : ∀ o o', ((w.alloc o).alloc o').cell? ⟨a, 2, none⟩ = some (.slice sb sn sc) := fun o o' => ((hb.alloc o).alloc o').cell 2
  have fin : ∀ o o' o'', Qt w (((w.alloc o).alloc o').alloc o'') := fun o o' o'' => (((Qt.refl w).alloc o).alloc o').alloc o''
  have hlt := hb.lt
  have HK := Lib.hid hk
  have HF := Lib.hid fin
  have HB := Lib.hid hb
  clear hk fin hb
  go_enter_defers Tryz.func72, Tryz.ntmps72
  go_wp2_with fail
  refine (HK.out _ (HF.out _ _ _)).mono ?_
  rintro e w2 ⟨rfl, ⟨sl, hb2⟩, hog⟩
  have d1 : w2.cell? ⟨w.heap.size + 1, 0, none⟩ = some (.bool false) := hog.cell (by simp [go_sem]) (by show w.heap.size + 1 ≠ a; omega)
  have d2 : w2.frozen? ⟨w.heap.size + 1, 0, none⟩ = false := hog.frozen (by simp [go_sem]) (by simp) (by show w.heap.size + 1 ≠ a; omega)
  have d3 : w2.cell? ⟨w.heap.size + 1 + 1, 0, none⟩ = some (.slice sb sn sc) := hog.cell (by simp [go_sem]) (by show w.heap.size + 1 + 1 ≠ a; omega)
  have HB2 := Lib.hid hb2
  have HOG := Lib.hid hog
  clear hb2 hog
  go_wp2
  refine leaves_cons (f := 97) (args := #[.pointer (some ⟨w.heap.size, 0, none⟩), .pointer (some ⟨w.heap.size + 1 + 1, 0, none⟩), .pointer (some ⟨w.heap.size + 1, 0, none⟩)]) (by simp) (by simp [go_sem]) ?_
  have hp : w2.cell? ⟨w.heap.size, 0, none⟩ = some (.pointer (some ⟨a, 0, none⟩)) := HOG.out.cell (by simp [go_sem]) (by show w.heap.size ≠ a; omega)
  refine (catchB_unmet a w.heap.size (w.heap.size + 1 + 1) (w.heap.size + 1) (.bool true) (.bool false) sl (.bool false) sb sn sc w2 [] HB2.out hp d3 d1 d2 hlt (by omega) (by omega)).mono ?_
  rintro e u' w'' ⟨rfl, rfl, h1, h2, h3⟩
  simp [Leaves, settle, results, Tryz.results72, go_sem, h2]
  exact ⟨h1, h3 w ((HF.out _ _ _).og.trans HOG.out) (by omega)⟩
end Go.Proofs.YtajkmblcphdnbaaGreat
