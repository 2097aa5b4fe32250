import Derived.Test.YtajkmblcphdnbaaGreatWD
import Derived.Deep.MidRow
import Derived.OrdersHeld
import Derived.Laws.Tables
/-! asked[Hash]. -/
namespace Go.Proofs.YtajkmblcphdnbaaGreat
open Go.RowKit
set_option linter.unusedVariables false
set_option linter.unusedSimpArgs false

/-- Noughts. -/
def Z32 : List Nat := List.replicate 32 0
theorem Z32_len : Z32.length = 32 := by simp [Z32]
theorem u8s_all (l : List Nat) : (u8s l).toArray.all (·.oneCell') = true := by
  rw [List.all_toArray, List.all_eq_true]
  intro v hv
  exact u8s_one1 l v hv
theorem size_hash (l : List Nat) (h : l.length = 32) : ((Tryz.prog).info? 25).map (·.size) = some (u8s l).toArray.size := by
  rw [List.size_toArray, u8s_len, h]; kernel_rfl
theorem blk_setRow {w : World} {g : Nat} {t : TypeId} {c : List Value} (h : Blk w g t c) (d : List Value) : Blk (w.setRow g d.toArray) g t d := setRow_heap w g _ _ t (0, 0) h
theorem blk_setRow_far {w : World} {g k : Nat} {t : TypeId} {c : List Value} (h : Blk w k t c) (hk : k ≠ g) (d : Array Value) : Blk (w.setRow g d) k t c := by
  unfold Blk at *; rw [setRow_other _ _ _ _ hk, h]
theorem og_setRow {a g : Nat} {w w' : World} (h : Og a w w') (hg : g = a ∨ w.heap.size ≤ g) (d : Array Value) : Og a w (w'.setRow g d) :=
  ⟨h.os, h.tape, h.output, by rw [setRow_size]; exact h.size, fun k hk hn => by
    rw [setRow_other _ _ _ _ (by
      rintro rfl
      rcases hg with hg | hg
      · exact hn (by rw [hg])
      · omega)]
    exact h.block k hk hn⟩

section
variable {P : Program} {md : Region.Mode} {ops : Array Oper} {Q : Exit → Act → World → Prop} {S : World → Prop} {o : Oper} {a : Act} {w : World}
theorem genH {fuel : Nat} {listed : Array Bool} (h : ∀ a0, a0 = a → wpAnyH P md ops Q S fuel listed a0 w) : wpAnyH P md ops Q S fuel listed a w := h a rfl
theorem wantedN (hg : o.guard = none) : Region.wanted o (yielded ops a.tmps) = true := by simp [Region.wanted, hg]
theorem tkH {i : Nat} {oi : Oper} {v : Value} {fuel : Nat} {listed : Array Bool} (hi : ops[i]? = some oi)
    (hs : Region.noSelect ops = true) (hf : Region.free md ops listed i = true) (hr : (Region.ready md ops listed).contains i = true)
    (hQ : ∀ c a w, Q (.panic c) (a.put oi.dst v) w → Q (.panic c) a w) (hS : S w) (hw : Region.wanted oi (yielded ops a.tmps) = true) (hrun : ∀ w, S w → (execOp a.eval oi).run P w = .ok (.value v) w)
    (h : ∀ a', a' = a.put oi.dst v → wpAnyH P md ops Q S fuel (listed.setIfInBounds i true) a' w) : wpAnyH P md ops Q S (fuel + 1) listed a w :=
  wpAnyH_take hi hs hf hr hQ (.inl ⟨hw, hrun⟩) hS (h _ rfl)
theorem ldRow {ty : TypeId} {x : Operand} {b off : Nat} {cs : List Value} {d : TypeDesc} (ho : o.op = .load ty x) (hx : a.eval x = .pointer (some ⟨b, off, none⟩)) (hc : w.rangeAt b off cs)
    (hu : P.underlying ty = some d) (hd : d.isRow = true) (hi : (P.info? ty).map (·.size) = some cs.length) : (execOp a.eval o).run P w = .ok (.value (.agg cs.toArray)) w := by
  unfold execOp
  simp only [ho, hx, Sem.run_bind, run_loadAt_mid w b off ty cs d hc hu hd hi, Result.andThen_ok, Sem.run_pure]
/-- A store that comes up alone. -/
theorem stH1 {i : Nat} {oi : Oper} {fuel : Nat} {listed : Array Bool} (hi : ops[i]? = some oi) (hr : Region.ready md ops listed = [i]) (hg : oi.guard = none) (hdst : oi.dst = none)
    (w' : World) (hrun : (execOp a.eval oi).run P w = .ok .skip w') (h : S w' ∧ wpAnyH P md ops Q S fuel (listed.setIfInBounds i true) a w') : wpAnyH P md ops Q S (fuel + 1) listed a w := by
  refine wpAnyH_all hr (by simp) fun j hj => ?_
  obtain rfl := List.mem_singleton.1 hj
  refine wpOp_step hi fun K hK => ?_
  rw [if_pos (wantedN hg)]
  unfold Oper.wp
  rw [hrun]
  have e : a.put oi.dst undef = a := by rw [hdst]; rfl
  refine hK _ _ ?_
  first
    | exact h
    | (rw [e]; exact h)
theorem ld1 {ty : TypeId} {x : Operand} {ad : Addr} {v : Value} (ho : o.op = .load ty x) (hx : a.eval x = .pointer (some ad)) (hr : (Instr.loadAt ty (.pointer (some ad))).run P w = .ok v w) : (execOp a.eval o).run P w = .ok (.value v) w := by
  unfold execOp
  simp only [ho, hx, Sem.run_bind, hr, Result.andThen_ok, Sem.run_pure]
theorem nc1 {x : Operand} {ad : Addr} (ho : o.op = .nilCheck x) (hx : a.eval x = .pointer (some ad)) : (execOp a.eval o).run P w = .ok (.value (.pointer (some ad))) w := by
  unfold execOp
  simp only [ho, hx]
  rfl
theorem fa1 {ty : TypeId} {i : Nat} {x : Operand} {v v' : Value} (ho : o.op = .fieldAddr ty x i) (hx : a.eval x = v) (hr : (Instr.fieldAt ty v i).run P w = .ok v' w) : (execOp a.eval o).run P w = .ok (.value v') w := by
  unfold execOp
  simp only [ho, hx, Sem.run_bind, hr, Result.andThen_ok, Sem.run_pure]
theorem st1 {ty : TypeId} {x y : Operand} {v u : Value} {w' : World} (ho : o.op = .store ty x y) (hx : a.eval x = v) (hy : a.eval y = u) (hr : (Instr.storeAt ty v u).run P w = .ok () w') : (execOp a.eval o).run P w = .ok .skip w' := by
  unfold execOp
  simp only [ho, hx, hy, Sem.run_bind, hr, Result.andThen_ok, Sem.run_pure]
theorem stRow {ty : TypeId} {x y : Operand} {g : Nat} {cells : Array Value} {t : TypeId} {old : Array Value} (ho : o.op = .store ty x y) (hx : a.eval x = .pointer (some ⟨g, 0, none⟩)) (hy : a.eval y = .agg cells)
    (hg : w.heap[g]? = some (.cells old t (0, 0))) (hi : (P.info? ty).map (·.size) = some cells.size) (hold : old.size = cells.size) (h1 : cells.all (·.oneCell') = true) :
    (execOp a.eval o).run P w = .ok .skip (w.setRow g cells) := by
  unfold execOp
  simp only [ho, hx, hy, Instr.storeAt, Instr.sureAddr, Sem.run_bind, Sem.run_pure, Result.andThen_ok, run_storeVar_row w g t ty old cells hg hi hold h1]
end
theorem evS {a : Act} {d : Nat} {v : Value} (h : d < a.tmps.size) : (a.put (some d) v).eval (.tmp d) = v := by
  simp [Act.put, Act.eval, h]
theorem evO {a : Act} {d e : Nat} {v : Value} (h : d ≠ e) : (a.put (some d) v).eval (.tmp e) = a.eval (.tmp e) := by
  simp [Act.put, Act.eval, h]

set_option maxRecDepth 100000 in
set_option maxHeartbeats 1000000 in
theorem catchH_unmet (a p q o : Nat) (x y sl : Value) (sb : Option Addr) (sn sc : Nat) (w : World) (older : List PanicEntry) (cs : List Value) (hcl : cs.length = 32)
    (hb : Blk w a 69 [x, y, sl]) (hp : w.cell? ⟨p, 0, none⟩ = some (.pointer (some ⟨a, 0, none⟩))) (hq : w.cell? ⟨q, 0, none⟩ = some (.slice sb sn sc))
    (ho : Blk w o 25 cs) (hap : a < p) (haq : a < q) (hao : a < o) (hpo : p ≠ o) (hqo : q ≠ o) :
    CallsD Tryz.prog 100 #[.pointer (some ⟨p, 0, none⟩), .pointer (some ⟨q, 0, none⟩), .pointer (some ⟨o, 0, none⟩)] (.panicking (unmet :: older)) w fun e u' w' =>
      e = .returned (.tuple #[]) ∧ u' = .panicking ({ unmet with recovered := true } :: older) ∧ Blk w' a 69 [x, .bool true, .slice sb sn sc] ∧ Blk w' o 25 (u8s Z32) ∧ ∀ w0, Og a w0 w → w0.heap.size ≤ o → Og a w0 w' := by
  have HI := Lib.hid (size_hash Z32 Z32_len)
  have HO1 := Lib.hid (u8s_all Z32)
  refine callsD_of_wpS Tryz.func100 rfl fun c₀ cs' hu => ?_
  apply wpS_seq
  refine wpS_region_draw (by kernel_rfl) [[0, 1, 2, 3, 4], [0, 1, 3, 2, 4], [0, 3, 1, 2, 4], [3, 0, 1, 2, 4]] (by kernel_rfl) ?_
  have hp' : w.drew.cell? ⟨p, 0, none⟩ = some (.pointer (some ⟨a, 0, none⟩)) := hp
  have hcb : Blk w.drew a 69 [x, y, sl] := hb
  simp only [List.mem_cons, List.not_mem_nil, or_false, forall_eq_or_imp, forall_eq]
  refine ⟨?_, ?_, ?_, ?_⟩
  all_goals
    simp [wpOpsS, go_sem, recoverD, hu, Tryz.ntmps100, Exit.thenS, hp', unmet]
    refine (caught_unmet a _ x y [sl] _ hcb).mono ?_
    rintro e w1 ⟨rfl, hb1, hog⟩
    have c0 : w1.cell? ⟨p, 0, none⟩ = some (.pointer (some ⟨a, 0, none⟩)) := hog.cell hp (by show p ≠ a; omega)
    have c1 : w1.cell? ⟨q, 0, none⟩ = some (.slice sb sn sc) := hog.cell hq (by show q ≠ a; omega)
    have c4 : w1.cell? ⟨a, 1, none⟩ = some (.bool true) := hb1.cell 1
    have hbo : Blk w1 o 25 cs := Blk.og (w := w.drew) ho hog (show o ≠ a by omega)
    have HB := Lib.hid hb1
    have HOG := Lib.hid hog
    have HBO := Lib.hid hbo
    clear hb hcb hb1 hog hp hp' hq ho hbo
    refine wpS_of_wp ?_
    simp only [Array.replicate_succ, Array.replicate_zero, List.push_toArray, List.setIfInBounds_toArray, List.append_toArray, List.nil_append, List.cons_append, List.set_cons_succ, List.set_cons_zero]
    go_wp2
    obtain ⟨N, hN⟩ : ∃ N, N = w1.heap.size := ⟨_, rfl⟩
    have hna : N ≠ a := by have := HB.out.lt; omega
    have hno : N ≠ o := by have := HBO.out.lt; omega
    have hnn : Blk (w1.alloc (.cells (u8s Z32).toArray 25)).drew N 25 (u8s Z32) := by rw [hN]; exact heap_alloc_new w1 _
    have hs0 : ∀ W, Qt w1 W → Blk W N 25 (u8s Z32) → (W.cell? ⟨p, 0, none⟩ = some (.pointer (some ⟨a, 0, none⟩)) ∧ W.cell? ⟨q, 0, none⟩ = some (.slice sb sn sc) ∧ W.rangeAt N 0 (u8s Z32)) := fun W qt hb => ⟨(qt.cell (blk_of_cell c0)).trans c0, (qt.cell (blk_of_cell c1)).trans c1, fun j v hv => by rw [Nat.zero_add, hb.cell]; exact hv⟩
    have qW : Qt w1 (w1.alloc (.cells (u8s Z32).toArray 25)).drew := ((Qt.refl w1).alloc _).drew
    have HS := Lib.hid (hs0 _ qW hnn)
    have HQW := Lib.hid qW
    have HNN := Lib.hid hnn
    refine wp_region_held (S := fun W => W.cell? ⟨p, 0, none⟩ = some (.pointer (some ⟨a, 0, none⟩)) ∧ W.cell? ⟨q, 0, none⟩ = some (.slice sb sn sc) ∧ W.rangeAt N 0 (u8s Z32)) (by kernel_rfl) ?_
    change wpAnyH _ _ _ _ _ _ _ _ (World.drew (w1.alloc (.cells (u8s Z32).toArray 25)))
    have c6 : (World.drew (w1.alloc (.cells (u8s Z32).toArray 25))).cell? ⟨a, 2, none⟩ = some sl := (HB.out.qt HQW.out).cell 2
    have f6 : (World.drew (w1.alloc (.cells (u8s Z32).toArray 25))).frozen? ⟨a, 2, none⟩ = false := (HB.out.qt HQW.out).frozen 2
    refine genH fun F0 hA => ?_
    have z0 : F0.tmps.size = 19 := by rw [hA]; rfl
    have e0_0 : F0.eval (.tmp 0) = .pointer (some ⟨p, 0, none⟩) := by rw [hA]; rfl
    have e1_0 : F0.eval (.tmp 1) = .pointer (some ⟨q, 0, none⟩) := by rw [hA]; rfl
    have e2_0 : F0.eval (.tmp 2) = .pointer (some ⟨o, 0, none⟩) := by rw [hA]; rfl
    have e3_0 : F0.eval (.tmp 3) = .pointer (some ⟨N, 0, none⟩) := by rw [hA, hN]; rfl
    have d0 : F0.defers = [] := by rw [hA]
    clear hA hs0 hnn qW c0 c1 c4
    generalize (World.drew (w1.alloc (.cells (u8s Z32).toArray 25))) = W at *
    refine tkH (i := 0) (oi := _) (v := (.pointer (some ⟨a, 0, none⟩))) rfl (by kernel_rfl) (by kernel_rfl) (by kernel_rfl) (fun _ _ _ h => h) HS.out (wantedN rfl) (fun w hs => ld1 rfl e0_0 (by have h1 := hs.1; go_simp)) ?_
    intro F1 hF1
    have z1 : F1.tmps.size = 19 := by rw [hF1]; simpa [Act.put] using z0
    have e14_1 : F1.eval (.tmp 14) = (.pointer (some ⟨a, 0, none⟩)) := by rw [hF1]; exact evS (by rw [z0]; decide)
    have e1_1 := (show F1.eval (.tmp 1) = F0.eval (.tmp 1) by rw [hF1]; exact evO (by decide)).trans e1_0
    have e2_1 := (show F1.eval (.tmp 2) = F0.eval (.tmp 2) by rw [hF1]; exact evO (by decide)).trans e2_0
    have e3_1 := (show F1.eval (.tmp 3) = F0.eval (.tmp 3) by rw [hF1]; exact evO (by decide)).trans e3_0
    have HF1 := Lib.hid hF1
    clear hF1
    refine tkH (i := 1) (oi := _) (v := (.slice sb sn sc)) rfl (by kernel_rfl) (by kernel_rfl) (by kernel_rfl) (fun _ _ _ h => h) HS.out (wantedN rfl) (fun w hs => ld1 rfl e1_1 (by have h1 := hs.2.1; go_simp)) ?_
    intro F2 hF2
    have z2 : F2.tmps.size = 19 := by rw [hF2]; simpa [Act.put] using z1
    have e15_2 : F2.eval (.tmp 15) = (.slice sb sn sc) := by rw [hF2]; exact evS (by rw [z1]; decide)
    have e2_2 := (show F2.eval (.tmp 2) = F1.eval (.tmp 2) by rw [hF2]; exact evO (by decide)).trans e2_1
    have e3_2 := (show F2.eval (.tmp 3) = F1.eval (.tmp 3) by rw [hF2]; exact evO (by decide)).trans e3_1
    have e14_2 := (show F2.eval (.tmp 14) = F1.eval (.tmp 14) by rw [hF2]; exact evO (by decide)).trans e14_1
    have HF2 := Lib.hid hF2
    clear hF2
    refine tkH (i := 2) (oi := _) (v := (.agg (u8s Z32).toArray)) rfl (by kernel_rfl) (by kernel_rfl) (by kernel_rfl) (fun _ _ _ h => h) HS.out (wantedN rfl) (fun w hs => ldRow rfl e3_2 hs.2.2 (d := .array 32 5) (by kernel_rfl) rfl (by rw [u8s_len, Z32_len]; kernel_rfl)) ?_
    intro F3 hF3
    have z3 : F3.tmps.size = 19 := by rw [hF3]; simpa [Act.put] using z2
    have e16_3 : F3.eval (.tmp 16) = (.agg (u8s Z32).toArray) := by rw [hF3]; exact evS (by rw [z2]; decide)
    have e2_3 := (show F3.eval (.tmp 2) = F2.eval (.tmp 2) by rw [hF3]; exact evO (by decide)).trans e2_2
    have e14_3 := (show F3.eval (.tmp 14) = F2.eval (.tmp 14) by rw [hF3]; exact evO (by decide)).trans e14_2
    have e15_3 := (show F3.eval (.tmp 15) = F2.eval (.tmp 15) by rw [hF3]; exact evO (by decide)).trans e15_2
    have HF3 := Lib.hid hF3
    clear hF3
    refine tkH (i := 3) (oi := _) (v := (.pointer (some ⟨a, 0, none⟩))) rfl (by kernel_rfl) (by kernel_rfl) (by kernel_rfl) (fun _ _ _ h => h) HS.out (wantedN rfl) (fun w hs => nc1 rfl e14_3) ?_
    intro F4 hF4
    have z4 : F4.tmps.size = 19 := by rw [hF4]; simpa [Act.put] using z3
    have e17_4 : F4.eval (.tmp 17) = (.pointer (some ⟨a, 0, none⟩)) := by rw [hF4]; exact evS (by rw [z3]; decide)
    have e2_4 := (show F4.eval (.tmp 2) = F3.eval (.tmp 2) by rw [hF4]; exact evO (by decide)).trans e2_3
    have e15_4 := (show F4.eval (.tmp 15) = F3.eval (.tmp 15) by rw [hF4]; exact evO (by decide)).trans e15_3
    have e16_4 := (show F4.eval (.tmp 16) = F3.eval (.tmp 16) by rw [hF4]; exact evO (by decide)).trans e16_3
    have HF4 := Lib.hid hF4
    clear hF4
    refine tkH (i := 4) (oi := _) (v := (.pointer (some ⟨a, 2, none⟩))) rfl (by kernel_rfl) (by kernel_rfl) (by kernel_rfl) (fun _ _ _ h => h) HS.out (wantedN rfl) (fun w hs => fa1 rfl e17_4 (by go_simp)) ?_
    intro F5 hF5
    have z5 : F5.tmps.size = 19 := by rw [hF5]; simpa [Act.put] using z4
    have e18_5 : F5.eval (.tmp 18) = (.pointer (some ⟨a, 2, none⟩)) := by rw [hF5]; exact evS (by rw [z4]; decide)
    have e2_5 := (show F5.eval (.tmp 2) = F4.eval (.tmp 2) by rw [hF5]; exact evO (by decide)).trans e2_4
    have e15_5 := (show F5.eval (.tmp 15) = F4.eval (.tmp 15) by rw [hF5]; exact evO (by decide)).trans e15_4
    have e16_5 := (show F5.eval (.tmp 16) = F4.eval (.tmp 16) by rw [hF5]; exact evO (by decide)).trans e16_4
    have HF5 := Lib.hid hF5
    clear hF5
    have hs1 : Blk (W.setCell ⟨a, 2, none⟩ (.slice sb sn sc)) N 25 (u8s Z32) := HNN.out.far hna _
    have hS2 : ((W.setCell ⟨a, 2, none⟩ (.slice sb sn sc)).cell? ⟨p, 0, none⟩ = some (.pointer (some ⟨a, 0, none⟩)) ∧ (W.setCell ⟨a, 2, none⟩ (.slice sb sn sc)).cell? ⟨q, 0, none⟩ = some (.slice sb sn sc) ∧ (W.setCell ⟨a, 2, none⟩ (.slice sb sn sc)).rangeAt N 0 (u8s Z32)) := by
      have qq : Og a W _ := (Og.refl a W).setCell (p := ⟨a, 2, none⟩) (.inl rfl) (.slice sb sn sc)
      exact ⟨Og.cell (p := ⟨p, 0, none⟩) qq HS.out.1 (by show p ≠ a; omega), Og.cell (p := ⟨q, 0, none⟩) qq HS.out.2.1 (by show q ≠ a; omega), fun j v hv => by rw [Nat.zero_add, hs1.cell]; exact hv⟩
    have HS2 := Lib.hid hS2
    have ho2 : Blk (W.setCell ⟨a, 2, none⟩ (.slice sb sn sc)) o 25 cs := (HBO.out.qt HQW.out).far (by show o ≠ a; omega) _
    have HO2 := Lib.hid ho2
    clear hs1 hS2 ho2
    refine stH1 (i := 5) (oi := _) rfl (by kernel_rfl) rfl rfl (W.setCell ⟨a, 2, none⟩ (.slice sb sn sc)) (st1 rfl e18_5 e15_5 (by go_simp)) ⟨HS2.out, ?_⟩
    refine stH1 (i := 6) (oi := _) rfl (by kernel_rfl) rfl rfl ((W.setCell ⟨a, 2, none⟩ (.slice sb sn sc)).setRow o (u8s Z32).toArray) (stRow rfl e2_5 e16_5 HO2.out HI.out (by rw [List.size_toArray, List.size_toArray, hcl, u8s_len, Z32_len]) HO1.out) ⟨?_, ?_⟩
    · have hr : ∀ g j, g ≠ o → ((W.setCell ⟨a, 2, none⟩ (.slice sb sn sc)).setRow o (u8s Z32).toArray).cell? ⟨g, j, none⟩ = (W.setCell ⟨a, 2, none⟩ (.slice sb sn sc)).cell? ⟨g, j, none⟩ := fun g j hg => cell_setRow_other _ _ _ _ hg
      exact ⟨(hr _ _ hpo).trans HS2.out.1, (hr _ _ hqo).trans HS2.out.2.1, fun j v hv => (hr _ _ hno).trans (HS2.out.2.2 j v hv)⟩
    · refine wpAnyH_done (by kernel_rfl) ?_ _
      have d5 : F5.defers = [] := by rw [HF5.out, HF4.out, HF3.out, HF2.out, HF1.out]; exact d0
      refine ⟨d5, _, rfl, .tuple #[], by simp [results, Tryz.results100, go_sem], rfl, rfl, blk_setRow_far ((HB.out.qt HQW.out).set 2 _) (by omega) _, blk_setRow HO2.out _, fun w0 h0 hs => ?_⟩
      exact og_setRow ((((h0.drew.trans HOG.out).trans HQW.out.og).setCell (.inl rfl) _)) (.inr hs) _
theorem catchH_idle (a p : Nat) (x sl : Value) (w : World) (hb : Blk w a 69 [x, .bool false, sl]) (hp : w.cell? ⟨p, 0, none⟩ = some (.pointer (some ⟨a, 0, none⟩))) (q' o' : Value) :
    CallsD Tryz.prog 100 #[.pointer (some ⟨p, 0, none⟩), q', o'] .returning w fun e u' w' => e = .returned (.tuple #[]) ∧ u' = .returning ∧ w' = w.drew := by
  refine callsD_of_wpS Tryz.func100 rfl fun c₀ cs hu => ?_
  apply wpS_seq
  refine wpS_region_draw (by kernel_rfl) [[0, 1, 2, 3, 4], [0, 1, 3, 2, 4], [0, 3, 1, 2, 4], [3, 0, 1, 2, 4]] (by kernel_rfl) ?_
  have hp' : w.drew.cell? ⟨p, 0, none⟩ = some (.pointer (some ⟨a, 0, none⟩)) := hp
  have c4 : w.drew.cell? ⟨a, 1, none⟩ = some (.bool false) := hb.cell 1
  simp only [List.mem_cons, List.not_mem_nil, or_false, forall_eq_or_imp, forall_eq]
  refine ⟨?_, ?_, ?_, ?_⟩
  all_goals
    simp [wpOpsS, go_sem, recoverD, hu, Tryz.ntmps100, Exit.thenS, hp']
    refine (caught_nil _ _).mono ?_
    rintro e w1 ⟨rfl, rfl⟩
    refine wpS_of_wp ?_
    simp only [Array.replicate_succ, Array.replicate_zero, List.push_toArray, List.setIfInBounds_toArray, List.append_toArray, List.nil_append, List.cons_append, List.set_cons_succ, List.set_cons_zero]
    go_wp2
    cases c₀
    simp_all [bodyPostS, results, Tryz.results100]

theorem alloc2_blk {w : World} {o : Obj} {t : TypeId} {c : List Value} : Blk ((w.alloc o).alloc (.cells c.toArray t)) (w.heap.size + 1) t c := by
  have h := heap_alloc_new (w.alloc o) (.cells c.toArray t)
  rwa [show (w.alloc o).heap.size = w.heap.size + 1 from by simp] at h
theorem qt_setRow {w w' : World} {g : Nat} (q : Qt w w') (hg : w.heap.size ≤ g) (d : Array Value) : Qt w (w'.setRow g d) :=
  ⟨q.os, q.tape, q.output, by rw [setRow_size]; exact q.size, fun k hk => by rw [setRow_other _ _ _ _ (by omega)]; exact q.block k hk⟩
set_option maxRecDepth 100000 in
set_option maxHeartbeats 1000000 in
theorem askedH_dead (p f : Value) (w : World) (hd : Dead w p) : Calls Tryz.prog 86 #[p, f] w fun e w' => e = .returned (.agg (u8s Z32).toArray) ∧ Qt w w' := by
  have HI := Lib.hid (size_hash Z32 Z32_len)
  have HO1 := Lib.hid (u8s_all Z32)
  have HOB := Lib.hid (fun o => (alloc2_blk : Blk ((w.alloc o).alloc (.cells (u8s Z32).toArray 25)) (w.heap.size + 1) 25 (u8s Z32)))
  have HFN := Lib.hid (fun o => (qt_setRow (((Qt.refl w).alloc o).alloc (.cells (u8s Z32).toArray 25)) (Nat.le_succ _) (u8s Z32).toArray : Qt w (((w.alloc o).alloc (.cells (u8s Z32).toArray 25)).setRow (w.heap.size + 1) (u8s Z32).toArray)))
  rcases hd with rfl | ⟨a, m, b, sl, rfl, hb, h⟩
  · go_enter_defers Tryz.func86, Tryz.ntmps86
    go_wp2_with (first
      | (refine wpList_load_row rfl 25 (.tmp 4) rfl (w.heap.size + 1) rfl 25 _ (0, 0) (.array 32 5) (HOB.out _) (by kernel_rfl) rfl HI.out ?_)
      | (refine wpList_store_row rfl 25 (.tmp 4) (.tmp 23) rfl (w.heap.size + 1) (u8s Z32).toArray rfl rfl 25 _ (HOB.out _) HI.out rfl HO1.out ?_))
    exact ⟨_, results_cell_row rfl _ _ (w.heap.size + 1) 25 (u8s Z32).toArray (0, 0) (.array 32 5) rfl (setRow_heap _ _ _ _ _ _ (HOB.out _)) (by kernel_rfl) rfl HI.out, rfl, HFN.out _⟩
  · have c0 : ∀ o o', ((w.alloc o).alloc o').cell? ⟨a, 0, none⟩ = some (.bool m) := fun o o' => ((hb.alloc o).alloc o').cell 0
    have c1 : ∀ o o', ((w.alloc o).alloc o').cell? ⟨a, 1, none⟩ = some (.bool b) := fun o o' => ((hb.alloc o).alloc o').cell 1
    clear hb
    cases m with
    | false =>
      clear h
      go_enter_defers Tryz.func86, Tryz.ntmps86
      go_wp2_with (first
        | (refine wpList_load_row rfl 25 (.tmp 4) rfl (w.heap.size + 1) rfl 25 _ (0, 0) (.array 32 5) (HOB.out _) (by kernel_rfl) rfl HI.out ?_)
        | (refine wpList_store_row rfl 25 (.tmp 4) (.tmp 23) rfl (w.heap.size + 1) (u8s Z32).toArray rfl rfl 25 _ (HOB.out _) HI.out rfl HO1.out ?_))
      exact ⟨_, results_cell_row rfl _ _ (w.heap.size + 1) 25 (u8s Z32).toArray (0, 0) (.array 32 5) rfl (setRow_heap _ _ _ _ _ _ (HOB.out _)) (by kernel_rfl) rfl HI.out, rfl, HFN.out _⟩
    | true =>
      obtain rfl : b = true := by simpa using h
      clear h
      go_enter_defers Tryz.func86, Tryz.ntmps86
      go_wp2_with (first
        | (refine wpList_load_row rfl 25 (.tmp 4) rfl (w.heap.size + 1) rfl 25 _ (0, 0) (.array 32 5) (HOB.out _) (by kernel_rfl) rfl HI.out ?_)
        | (refine wpList_store_row rfl 25 (.tmp 4) (.tmp 23) rfl (w.heap.size + 1) (u8s Z32).toArray rfl rfl 25 _ (HOB.out _) HI.out rfl HO1.out ?_))
      exact ⟨_, results_cell_row rfl _ _ (w.heap.size + 1) 25 (u8s Z32).toArray (0, 0) (.array 32 5) rfl (setRow_heap _ _ _ _ _ _ (HOB.out _)) (by kernel_rfl) rfl HI.out, rfl, HFN.out _⟩

set_option maxRecDepth 100000 in
set_option maxHeartbeats 1000000 in
theorem askedH_met (a : Nat) (sb : Option Addr) (sn sc : Nat) (K : FuncId) (caps : Array Value) (v : List Nat) (hv : v.length = 32) (w : World) (hb : Blk w a 69 [.bool true, .bool false, .slice sb sn sc]) (S : Value → Prop) (hcf : ∀ args w, (callFunc K args).run Tryz.prog w = .ok (.enter K args) w)
    (hk : ∀ w1, Qt w w1 → Calls Tryz.prog K caps w1 fun e w2 => e = .returned (.agg (u8s v).toArray) ∧ (∃ sl, Blk w2 a 69 [.bool true, .bool false, sl] ∧ S sl) ∧ Og a w1 w2) :
    Calls Tryz.prog 86 #[.pointer (some ⟨a, 0, none⟩), .func (.func K) #[] caps] w fun e w' => e = .returned (.agg (u8s v).toArray) ∧ (∃ sl, Blk w' a 69 [.bool true, .bool false, sl] ∧ S sl) ∧ Og a w w' := by
  have HI := Lib.hid (size_hash v hv)
  have HO1 := Lib.hid (u8s_all v)
  have HHV := Lib.hid hv
  have hmf : ∀ (fn : Fn) (first cap : Array Value) (w : World), (Instr.makeFunc fn first cap).run Tryz.prog w = .ok (.func fn first cap) w := fun _ _ _ _ => rfl
  have c0 : ∀ o o', ((w.alloc o).alloc o').cell? ⟨a, 0, none⟩ = some (.bool true) := fun o o' => ((hb.alloc o).alloc o').cell 0
  have c1 : ∀ o o', ((w.alloc o).alloc o').cell? ⟨a, 1, none⟩ = some (.bool false) := fun o o' => ((hb.alloc o).alloc o').cell 1
  have c2 : ∀ o o', ((w.alloc o).alloc o').cell? ⟨a, 2, none⟩ = some (.slice sb sn sc) := fun o o' => ((hb.alloc o).alloc o').cell 2
  have fin : ∀ o o' o'', Qt w (((w.alloc o).alloc o').alloc o'') := fun o o' o'' => (((Qt.refl w).alloc o).alloc o').alloc o''
  have hlt := hb.lt
  have HOB := Lib.hid (fun o o'' => ((alloc2_blk (w := w) (o := o) (t := 25) (c := u8s Z32)).alloc o''))
  have HK := Lib.hid hk
  have HF := Lib.hid fin
  have HB := Lib.hid hb
  clear hk fin hb hv
  go_enter_defers Tryz.func86, Tryz.ntmps86
  go_wp2_with fail
  refine (HK.out _ (HF.out _ _ _)).mono ?_
  rintro e w2 ⟨rfl, ⟨sl, hb2, hS⟩, hog⟩
  have hne : a ≠ w.heap.size + 1 := by omega
  have hob2 : Blk w2 (w.heap.size + 1) 25 (u8s Z32) := (HOB.out _ _).og hog (by omega)
  have HOB2 := Lib.hid hob2
  have hp : w2.cell? ⟨w.heap.size, 0, none⟩ = some (.pointer (some ⟨a, 0, none⟩)) := hog.cell (by simp [go_sem]) (by show w.heap.size ≠ a; omega)
  have HP := Lib.hid hp
  have HB2 := Lib.hid hb2
  have HOG := Lib.hid hog
  clear hb2 hog hob2 hp
  go_wp2_with (refine wpList_store_row rfl 25 (.tmp 4) (.tmp 30) rfl (w.heap.size + 1) (u8s v).toArray rfl rfl 25 _ HOB2.out HI.out (by rw [List.size_toArray, List.size_toArray, u8s_len, u8s_len, HHV.out, Z32_len]) HO1.out ?_)
  refine leaves_cons (f := 100) (args := #[.pointer (some ⟨w.heap.size, 0, none⟩), .pointer (some ⟨w.heap.size + 1 + 1, 0, none⟩), .pointer (some ⟨w.heap.size + 1, 0, none⟩)]) (by simp) (by simp [go_sem]) ?_
  have hp2 : (w2.setRow (w.heap.size + 1) (u8s v).toArray).cell? ⟨w.heap.size, 0, none⟩ = some (.pointer (some ⟨a, 0, none⟩)) := (cell_setRow_other _ _ _ _ (by show w.heap.size ≠ w.heap.size + 1; omega)).trans HP.out
  refine (catchH_idle a w.heap.size (.bool true) sl _ (blk_setRow_far HB2.out hne _) hp2 _ _).mono ?_
  rintro e u' w'' ⟨rfl, rfl, rfl⟩
  exact ⟨_, results_cell_row rfl _ _ (w.heap.size + 1) 25 (u8s v).toArray (0, 0) (.array 32 5) rfl (blk_setRow HOB2.out (u8s v)) (by kernel_rfl) rfl HI.out, rfl, ⟨sl, blk_setRow_far HB2.out hne _, hS⟩, (og_setRow ((HF.out _ _ _).og.trans HOG.out) (.inr (by simp)) _).drew⟩
set_option maxRecDepth 100000 in
set_option maxHeartbeats 1000000 in
theorem askedH_unmet (a : Nat) (sb : Option Addr) (sn sc : Nat) (K : FuncId) (caps : Array Value) (w : World) (hb : Blk w a 69 [.bool true, .bool false, .slice sb sn sc]) (hcf : ∀ args w, (callFunc K args).run Tryz.prog w = .ok (.enter K args) w)
    (hk : ∀ w1, Qt w w1 → Calls Tryz.prog K caps w1 fun e w2 => e = .panicked [unmet] ∧ (∃ sl, Blk w2 a 69 [.bool true, .bool false, sl]) ∧ Og a w1 w2) :
    Calls Tryz.prog 86 #[.pointer (some ⟨a, 0, none⟩), .func (.func K) #[] caps] w fun e w' => e = .returned (.agg (u8s Z32).toArray) ∧ Blk w' a 69 [.bool true, .bool true, .slice sb sn sc] ∧ Og a w w' := by
  have HI := Lib.hid (size_hash Z32 Z32_len)
  have hmf : ∀ (fn : Fn) (first cap : Array Value) (w : World), (Instr.makeFunc fn first cap).run Tryz.prog w = .ok (.func fn first cap) w := fun _ _ _ _ => rfl
  have c0 : ∀ o o', ((w.alloc o).alloc o').cell? ⟨a, 0, none⟩ = some (.bool true) := fun o o' => ((hb.alloc o).alloc o').cell 0
  have c1 : ∀ o o', ((w.alloc o).alloc o').cell? ⟨a, 1, none⟩ = some (.bool false) := fun o o' => ((hb.alloc o).alloc o').cell 1
  have c2 : ∀ o o', ((w.alloc o).alloc o').cell? ⟨a, 2, none⟩ = some (.slice sb sn sc) := fun o o' => ((hb.alloc o).alloc o').cell 2
  have fin : ∀ o o' o'', Qt w (((w.alloc o).alloc o').alloc o'') := fun o o' o'' => (((Qt.refl w).alloc o).alloc o').alloc o''
  have hlt := hb.lt
  have HOB := Lib.hid (fun o o'' => ((alloc2_blk (w := w) (o := o) (t := 25) (c := u8s Z32)).alloc o''))
  have HK := Lib.hid hk
  have HF := Lib.hid fin
  have HB := Lib.hid hb
  clear hk fin hb
  go_enter_defers Tryz.func86, Tryz.ntmps86
  go_wp2_with fail
  refine (HK.out _ (HF.out _ _ _)).mono ?_
  rintro e w2 ⟨rfl, ⟨sl, hb2⟩, hog⟩
  have hob2 : Blk w2 (w.heap.size + 1) 25 (u8s Z32) := (HOB.out _ _).og hog (by omega)
  have d3 : w2.cell? ⟨w.heap.size + 1 + 1, 0, none⟩ = some (.slice sb sn sc) := hog.cell (by simp [go_sem]) (by show w.heap.size + 1 + 1 ≠ a; omega)
  have hp : w2.cell? ⟨w.heap.size, 0, none⟩ = some (.pointer (some ⟨a, 0, none⟩)) := hog.cell (by simp [go_sem]) (by show w.heap.size ≠ a; omega)
  have HP := Lib.hid hp
  have HD := Lib.hid d3
  have HOB2 := Lib.hid hob2
  have HB2 := Lib.hid hb2
  have HOG := Lib.hid hog
  clear hb2 hog hob2 d3 hp
  go_wp2
  refine leaves_cons (f := 100) (args := #[.pointer (some ⟨w.heap.size, 0, none⟩), .pointer (some ⟨w.heap.size + 1 + 1, 0, none⟩), .pointer (some ⟨w.heap.size + 1, 0, none⟩)]) (by simp) (by simp [go_sem]) ?_
  refine (catchH_unmet a w.heap.size (w.heap.size + 1 + 1) (w.heap.size + 1) (.bool true) (.bool false) sl sb sn sc w2 [] (u8s Z32) (by rw [u8s_len, Z32_len]) HB2.out HP.out HD.out HOB2.out hlt (by omega) (by omega) (by omega) (by omega)).mono ?_
  rintro e u' w'' ⟨rfl, rfl, h1, h2, h3⟩
  exact ⟨_, results_cell_row rfl _ _ (w.heap.size + 1) 25 (u8s Z32).toArray (0, 0) (.array 32 5) rfl h2 (by kernel_rfl) rfl HI.out, rfl, h1, h3 w ((HF.out _ _ _).og.trans HOG.out) (by omega)⟩
end Go.Proofs.YtajkmblcphdnbaaGreat
