import Derived.Test.YtajkmblcphdnbaaGreatVK
/-! tells: printed by gentells.py. -/
namespace Go.Proofs.YtajkmblcphdnbaaGreat
open Go.RowKit
set_option linter.unusedVariables false
set_option linter.unusedSimpArgs false

set_option maxRecDepth 100000 in
set_option maxHeartbeats 1000000 in
theorem tells_0 (p : Value) (m : RM) (x : PutD) (bv : Value) (st : Option (List Nat)) (w : World) (h : RdX w p m st) (hx : x.Ok) (hk : x.what % 10 = 0) :
    Calls Tryz.prog 14 #[p, .agg (putC x bv).toArray] w fun e w' => e = .returned (.agg (toldK x st (leftV (nxt 1 st)) (errX m (nxt 1 st)) (nxt 1 st == some []) 0).toArray) ∧ RdX w' p m (nxt 1 st) ∧ Gs m.S w w' := by
  have hq3 : Qt w (((w.alloc (.cells (putC x bv).toArray 28)).alloc (.cells toldZ.toArray 49)).alloc (.cells toldZ.toArray 49)) := (((Qt.refl w).alloc _).alloc _).alloc _
  have hA : ∀ o o', Blk (((w.alloc (.cells (putC x bv).toArray 28)).alloc o).alloc o') w.heap.size 28 (putC x bv) := fun o o' => ((show Blk (w.alloc (.cells (putC x bv).toArray 28)) w.heap.size 28 (putC x bv) from heap_alloc_new w _).alloc o).alloc o'
  have c0 : ∀ o o', (((w.alloc (.cells (putC x bv).toArray 28)).alloc o).alloc o').cell? ⟨w.heap.size, 0, none⟩ = some (.int .i64 x.what) := fun o o' => (hA o o').cell 0
  have c1 : ∀ o o', (((w.alloc (.cells (putC x bv).toArray 28)).alloc o).alloc o').cell? ⟨w.heap.size, 1, none⟩ = some (.int .i64 x.n) := fun o o' => (hA o o').cell 1
  have HB := Lib.hid ((alloc2_blk (w := w) (o := (.cells (putC x bv).toArray 28)) (t := 49) (c := toldZ)).alloc (.cells toldZ.toArray 49))
  have HC := Lib.hid (alloc3_blk (w := w) (o := (.cells (putC x bv).toArray 28)) (o' := (.cells toldZ.toArray 49)) (t := 49) (c := toldZ))
  have hlt := h.lt
  have hn1 : ¬m.S (w.heap.size + 1) := fun e => by have := hlt _ e; omega
  have hn2 : ¬m.S (w.heap.size + 1 + 1) := fun e => by have := hlt _ e; omega
  have hset : ∀ (W : World) i v k, m.S k → (W.setCell ⟨(w.heap.size + 1 + 1), i, none⟩ v).heap[k]? = W.heap[k]? := fun W i v k hk => Below.heap_setCell _ _ _ _ (by have := hlt _ hk; show k ≠ (w.heap.size + 1 + 1); omega)
  have HP := Lib.hid (fun w => pick_any x.what 10 w hx.w0 hx.w1 (by omega) (by omega))
  have hk' : Value.int .i64 (x.what % 10) = .int .i64 0 := by rw [hk]
  have HK := Lib.hid hk'
  obtain ⟨fs, hfs⟩ : ∃ fs, Tryz.prog.underlying 49 = some (.struct fs) := und_struct (by kernel_rfl)
  have HFS := Lib.hid hfs
  have HR := Lib.hid (U8_x p m st (((w.alloc (.cells (putC x bv).toArray 28)).alloc (.cells toldZ.toArray 49)).alloc (.cells toldZ.toArray 49)) (h.qt hq3))
  have HSZ := Lib.hid (show ((Tryz.prog).info? 49).map (·.size) = some (toldK x st (leftV (nxt 1 st)) (errX m (nxt 1 st)) (nxt 1 st == some []) 0).toArray.size from told_size _ _ _ Z32_len _ _ _ _ _)
  have HON := Lib.hid (show (toldK x st (leftV (nxt 1 st)) (errX m (nxt 1 st)) (nxt 1 st == some []) 0).toArray.all (·.oneCell') = true from told_one _ _ _ _ _ _ _ _)
  have HEQ := Lib.hid (show (toldZ.toArray).size = (toldK x st (leftV (nxt 1 st)) (errX m (nxt 1 st)) (nxt 1 st == some []) 0).toArray.size by rw [List.size_toArray, List.size_toArray]; exact (toldZ_39 0 0 Z32 Z32_len (str []) false 0 0 false).trans (toldZ_39 _ _ _ Z32_len _ _ _ _ _).symm)
  have HLT := Lib.hid hlt
  have HN1 := Lib.hid hn1
  have HN2 := Lib.hid hn2
  have HSET := Lib.hid hset
  have HQ3 := Lib.hid hq3
  have HX0 := Lib.hid h
  obtain ⟨st1, hst1⟩ : ∃ st1, st1 = nxt 1 st := ⟨_, rfl⟩
  rw [← hst1] at HR HSZ HON HEQ ⊢
  clear h hx hk hk' hq3 hA hlt hn1 hn2 hset hfs hst1
  go_enter Tryz.func14, Tryz.ntmps14
  go_wp2_with (first
    | (have _t := HC5; refine wpList_load_row rfl 49 (.tmp 5) rfl (w.heap.size + 1 + 1) rfl 49 _ (0, 0) (.struct fs) HC5.out HFS.out rfl HSZ.out ?_)
    | (have _t := HC5; refine wpList_store_row rfl 49 (.tmp 4) (.tmp 74) rfl (w.heap.size + 1) (toldK x st (leftV (st1)) (errX m (st1)) (st1 == some []) 0).toArray rfl rfl 49 _ HB4.out HSZ.out HEQ.out HON.out ?_)
    | (go_at_call 24; refine (HP.out _).mono ?_; rintro e w1 ⟨rfl, rfl⟩; rw [HK.out])
    | (go_at_call 43; refine HR.out.mono ?_; rintro e w1 ⟨rfl, hr1, hg1⟩; (have hC1 := hg1.blk HC.out HN2.out); (have hB1 := hg1.blk HB.out HN1.out); (have cc : w1.cell? ⟨w.heap.size + 1 + 1, 0, none⟩ = some (.int .i64 0) := hC1.cell 0); (have ff : w1.frozen? ⟨w.heap.size + 1 + 1, 0, none⟩ = false := hC1.frozen 0); (have HL := Lib.hid (Left_x p m st1 (w1.setCell ⟨(w.heap.size + 1 + 1), 0, none⟩ (.int .i64 (num 1 st : Nat))) (hr1.keep (HSET.out w1 0 (.int .i64 (num 1 st : Nat))) (keep_set (.int .i64 (num 1 st : Nat)) hC1 rfl (fun _ e => by cases e))))); (have HB1 := Lib.hid hB1); (have HC1 := Lib.hid hC1); (have HG1 := Lib.hid hg1); clear hr1 hC1 hB1 hg1)
    | (go_at_call 50; refine HL.out.mono ?_; rintro e w2 ⟨rfl, hr2, hg2⟩; rw [leftN_id] at hr2; (have hC2 := hg2.blk (HC1.out.set 0 (.int .i64 (num 1 st : Nat))) HN2.out); (have hB2 := hg2.blk (HB1.out.far (p := ⟨(w.heap.size + 1 + 1), 0, none⟩) (by show (w.heap.size + 1) ≠ (w.heap.size + 1 + 1); omega) (.int .i64 (num 1 st : Nat))) HN1.out); (have c36 : w2.cell? ⟨w.heap.size + 1 + 1, 36, none⟩ = some (.int .i64 0) := hC2.cell 36); (have c37 : w2.cell? ⟨w.heap.size + 1 + 1, 37, none⟩ = some (.int .i64 0) := hC2.cell 37); (have c38 : w2.cell? ⟨w.heap.size + 1 + 1, 38, none⟩ = some (.bool false) := hC2.cell 38); (have f36 : w2.frozen? ⟨w.heap.size + 1 + 1, 36, none⟩ = false := hC2.frozen 36); (have f37 : w2.frozen? ⟨w.heap.size + 1 + 1, 37, none⟩ = false := hC2.frozen 37); (have f38 : w2.frozen? ⟨w.heap.size + 1 + 1, 38, none⟩ = false := hC2.frozen 38); (have hx3 := hr2.keep (HSET.out w2 36 (.int .i64 (leftV st1 : Nat))) (keep_set (.int .i64 (leftV st1 : Nat)) hC2 (old := .int .i64 0) rfl (fun _ e => by cases e))); (have hC3 := hC2.set 36 (.int .i64 (leftV st1 : Nat))); (have hx4 := hx3.keep (HSET.out _ 37 (.int .i64 (errX m st1))) (keep_set (.int .i64 (errX m st1)) hC3 (old := .int .i64 0) rfl (fun _ e => by cases e))); (have hC3b := hC3.set 37 (.int .i64 (errX m st1))); (have hx5 := hx4.keep (HSET.out _ 38 (.bool (st1 == some []))) (keep_set (.bool (st1 == some [])) hC3b (old := .bool false) rfl (fun _ e => by cases e))); (have HE := Lib.hid (Err_x p m st1 _ hx3)); (have HEN := Lib.hid (End_x p m st1 _ hx4)); (have HC4 : Hid (Blk (((w2.setCell ⟨(w.heap.size + 1 + 1), 36, none⟩ (.int .i64 (leftV st1 : Nat))).setCell ⟨(w.heap.size + 1 + 1), 37, none⟩ (.int .i64 (errX m st1))).setCell ⟨(w.heap.size + 1 + 1), 38, none⟩ (.bool (st1 == some []))) (w.heap.size + 1 + 1) 49 (toldK x st (leftV (st1)) (errX m (st1)) (st1 == some []) 0)) := Lib.hid (hC3b.set 38 (.bool (st1 == some [])))); (have HB4 := Lib.hid (((hB2.far (p := ⟨(w.heap.size + 1 + 1), 36, none⟩) (by show (w.heap.size + 1) ≠ (w.heap.size + 1 + 1); omega) (.int .i64 (leftV st1 : Nat))).far (p := ⟨(w.heap.size + 1 + 1), 37, none⟩) (by show (w.heap.size + 1) ≠ (w.heap.size + 1 + 1); omega) (.int .i64 (errX m st1))).far (p := ⟨(w.heap.size + 1 + 1), 38, none⟩) (by show (w.heap.size + 1) ≠ (w.heap.size + 1 + 1); omega) (.bool (st1 == some [])))); (have HX5 := Lib.hid hx5); (have HG2 := Lib.hid hg2); clear hr2 hg2 hC2 hB2 hx3 hC3 hx4 hC3b hx5)
    | (go_at_call 23; refine HE.out.mono ?_; rintro e w3 ⟨rfl, rfl⟩)
    | (go_at_call 22; refine HEN.out.mono ?_; rintro e w4 ⟨rfl, rfl⟩; have HC5 := HC4))
  have hg := ((((((Gs.of_qt HQ3.out : Gs m.S w _).tr HG1.out).setN (g := (w.heap.size + 1 + 1)) (i := 0) (by omega) (.int .i64 (num 1 st : Nat))).tr HG2.out).setN (g := (w.heap.size + 1 + 1)) (i := 36) (by omega) (.int .i64 (leftV st1 : Nat))).setN (g := (w.heap.size + 1 + 1)) (i := 37) (by omega) (.int .i64 (errX m st1))).setN (g := (w.heap.size + 1 + 1)) (i := 38) (by omega) (.bool (st1 == some []))
  refine bodyPost_ret (v := .agg (toldK x st (leftV (st1)) (errX m (st1)) (st1 == some []) 0).toArray) (results_cell_row rfl _ _ (w.heap.size + 1) 49 _ (0, 0) (.struct fs) rfl (blk_setRow HB4.out (toldK x st (leftV (st1)) (errX m (st1)) (st1 == some []) 0)) HFS.out rfl HSZ.out) rfl ⟨rfl, ?_, hg.rowN (by omega) _⟩
  exact HX5.out.keep (fun k hk => setRow_other _ _ _ _ (by have := HLT.out _ hk; omega)) (keep_row HB4.out (told_keep _ _ _ _ _ _ _ _ _ _ _ _ _ _ _))
set_option maxRecDepth 100000 in
set_option maxHeartbeats 1000000 in
theorem tells_1 (p : Value) (m : RM) (x : PutD) (bv : Value) (st : Option (List Nat)) (w : World) (h : RdX w p m st) (hx : x.Ok) (hk : x.what % 10 = 1) :
    Calls Tryz.prog 14 #[p, .agg (putC x bv).toArray] w fun e w' => e = .returned (.agg (toldK x st (leftV (nxt 2 st)) (errX m (nxt 2 st)) (nxt 2 st == some []) 1).toArray) ∧ RdX w' p m (nxt 2 st) ∧ Gs m.S w w' := by
  have hq3 : Qt w (((w.alloc (.cells (putC x bv).toArray 28)).alloc (.cells toldZ.toArray 49)).alloc (.cells toldZ.toArray 49)) := (((Qt.refl w).alloc _).alloc _).alloc _
  have hA : ∀ o o', Blk (((w.alloc (.cells (putC x bv).toArray 28)).alloc o).alloc o') w.heap.size 28 (putC x bv) := fun o o' => ((show Blk (w.alloc (.cells (putC x bv).toArray 28)) w.heap.size 28 (putC x bv) from heap_alloc_new w _).alloc o).alloc o'
  have c0 : ∀ o o', (((w.alloc (.cells (putC x bv).toArray 28)).alloc o).alloc o').cell? ⟨w.heap.size, 0, none⟩ = some (.int .i64 x.what) := fun o o' => (hA o o').cell 0
  have c1 : ∀ o o', (((w.alloc (.cells (putC x bv).toArray 28)).alloc o).alloc o').cell? ⟨w.heap.size, 1, none⟩ = some (.int .i64 x.n) := fun o o' => (hA o o').cell 1
  have HB := Lib.hid ((alloc2_blk (w := w) (o := (.cells (putC x bv).toArray 28)) (t := 49) (c := toldZ)).alloc (.cells toldZ.toArray 49))
  have HC := Lib.hid (alloc3_blk (w := w) (o := (.cells (putC x bv).toArray 28)) (o' := (.cells toldZ.toArray 49)) (t := 49) (c := toldZ))
  have hlt := h.lt
  have hn1 : ¬m.S (w.heap.size + 1) := fun e => by have := hlt _ e; omega
  have hn2 : ¬m.S (w.heap.size + 1 + 1) := fun e => by have := hlt _ e; omega
  have hset : ∀ (W : World) i v k, m.S k → (W.setCell ⟨(w.heap.size + 1 + 1), i, none⟩ v).heap[k]? = W.heap[k]? := fun W i v k hk => Below.heap_setCell _ _ _ _ (by have := hlt _ hk; show k ≠ (w.heap.size + 1 + 1); omega)
  have HP := Lib.hid (fun w => pick_any x.what 10 w hx.w0 hx.w1 (by omega) (by omega))
  have hk' : Value.int .i64 (x.what % 10) = .int .i64 1 := by rw [hk]
  have HK := Lib.hid hk'
  obtain ⟨fs, hfs⟩ : ∃ fs, Tryz.prog.underlying 49 = some (.struct fs) := und_struct (by kernel_rfl)
  have HFS := Lib.hid hfs
  have HR := Lib.hid (U16_x p m st (((w.alloc (.cells (putC x bv).toArray 28)).alloc (.cells toldZ.toArray 49)).alloc (.cells toldZ.toArray 49)) (h.qt hq3))
  have HSZ := Lib.hid (show ((Tryz.prog).info? 49).map (·.size) = some (toldK x st (leftV (nxt 2 st)) (errX m (nxt 2 st)) (nxt 2 st == some []) 1).toArray.size from told_size _ _ _ Z32_len _ _ _ _ _)
  have HON := Lib.hid (show (toldK x st (leftV (nxt 2 st)) (errX m (nxt 2 st)) (nxt 2 st == some []) 1).toArray.all (·.oneCell') = true from told_one _ _ _ _ _ _ _ _)
  have HEQ := Lib.hid (show (toldZ.toArray).size = (toldK x st (leftV (nxt 2 st)) (errX m (nxt 2 st)) (nxt 2 st == some []) 1).toArray.size by rw [List.size_toArray, List.size_toArray]; exact (toldZ_39 0 0 Z32 Z32_len (str []) false 0 0 false).trans (toldZ_39 _ _ _ Z32_len _ _ _ _ _).symm)
  have HLT := Lib.hid hlt
  have HN1 := Lib.hid hn1
  have HN2 := Lib.hid hn2
  have HSET := Lib.hid hset
  have HQ3 := Lib.hid hq3
  have HX0 := Lib.hid h
  obtain ⟨st1, hst1⟩ : ∃ st1, st1 = nxt 2 st := ⟨_, rfl⟩
  rw [← hst1] at HR HSZ HON HEQ ⊢
  clear h hx hk hk' hq3 hA hlt hn1 hn2 hset hfs hst1
  go_enter Tryz.func14, Tryz.ntmps14
  go_wp2_with (first
    | (have _t := HC5; refine wpList_load_row rfl 49 (.tmp 5) rfl (w.heap.size + 1 + 1) rfl 49 _ (0, 0) (.struct fs) HC5.out HFS.out rfl HSZ.out ?_)
    | (have _t := HC5; refine wpList_store_row rfl 49 (.tmp 4) (.tmp 74) rfl (w.heap.size + 1) (toldK x st (leftV (st1)) (errX m (st1)) (st1 == some []) 1).toArray rfl rfl 49 _ HB4.out HSZ.out HEQ.out HON.out ?_)
    | (go_at_call 24; refine (HP.out _).mono ?_; rintro e w1 ⟨rfl, rfl⟩; rw [HK.out])
    | (go_at_call 44; refine HR.out.mono ?_; rintro e w1 ⟨rfl, hr1, hg1⟩; (have hC1 := hg1.blk HC.out HN2.out); (have hB1 := hg1.blk HB.out HN1.out); (have cc : w1.cell? ⟨w.heap.size + 1 + 1, 0, none⟩ = some (.int .i64 0) := hC1.cell 0); (have ff : w1.frozen? ⟨w.heap.size + 1 + 1, 0, none⟩ = false := hC1.frozen 0); (have HL := Lib.hid (Left_x p m st1 (w1.setCell ⟨(w.heap.size + 1 + 1), 0, none⟩ (.int .i64 (num 2 st : Nat))) (hr1.keep (HSET.out w1 0 (.int .i64 (num 2 st : Nat))) (keep_set (.int .i64 (num 2 st : Nat)) hC1 rfl (fun _ e => by cases e))))); (have HB1 := Lib.hid hB1); (have HC1 := Lib.hid hC1); (have HG1 := Lib.hid hg1); clear hr1 hC1 hB1 hg1)
    | (go_at_call 50; refine HL.out.mono ?_; rintro e w2 ⟨rfl, hr2, hg2⟩; rw [leftN_id] at hr2; (have hC2 := hg2.blk (HC1.out.set 0 (.int .i64 (num 2 st : Nat))) HN2.out); (have hB2 := hg2.blk (HB1.out.far (p := ⟨(w.heap.size + 1 + 1), 0, none⟩) (by show (w.heap.size + 1) ≠ (w.heap.size + 1 + 1); omega) (.int .i64 (num 2 st : Nat))) HN1.out); (have c36 : w2.cell? ⟨w.heap.size + 1 + 1, 36, none⟩ = some (.int .i64 0) := hC2.cell 36); (have c37 : w2.cell? ⟨w.heap.size + 1 + 1, 37, none⟩ = some (.int .i64 0) := hC2.cell 37); (have c38 : w2.cell? ⟨w.heap.size + 1 + 1, 38, none⟩ = some (.bool false) := hC2.cell 38); (have f36 : w2.frozen? ⟨w.heap.size + 1 + 1, 36, none⟩ = false := hC2.frozen 36); (have f37 : w2.frozen? ⟨w.heap.size + 1 + 1, 37, none⟩ = false := hC2.frozen 37); (have f38 : w2.frozen? ⟨w.heap.size + 1 + 1, 38, none⟩ = false := hC2.frozen 38); (have hx3 := hr2.keep (HSET.out w2 36 (.int .i64 (leftV st1 : Nat))) (keep_set (.int .i64 (leftV st1 : Nat)) hC2 (old := .int .i64 0) rfl (fun _ e => by cases e))); (have hC3 := hC2.set 36 (.int .i64 (leftV st1 : Nat))); (have hx4 := hx3.keep (HSET.out _ 37 (.int .i64 (errX m st1))) (keep_set (.int .i64 (errX m st1)) hC3 (old := .int .i64 0) rfl (fun _ e => by cases e))); (have hC3b := hC3.set 37 (.int .i64 (errX m st1))); (have hx5 := hx4.keep (HSET.out _ 38 (.bool (st1 == some []))) (keep_set (.bool (st1 == some [])) hC3b (old := .bool false) rfl (fun _ e => by cases e))); (have HE := Lib.hid (Err_x p m st1 _ hx3)); (have HEN := Lib.hid (End_x p m st1 _ hx4)); (have HC4 : Hid (Blk (((w2.setCell ⟨(w.heap.size + 1 + 1), 36, none⟩ (.int .i64 (leftV st1 : Nat))).setCell ⟨(w.heap.size + 1 + 1), 37, none⟩ (.int .i64 (errX m st1))).setCell ⟨(w.heap.size + 1 + 1), 38, none⟩ (.bool (st1 == some []))) (w.heap.size + 1 + 1) 49 (toldK x st (leftV (st1)) (errX m (st1)) (st1 == some []) 1)) := Lib.hid (hC3b.set 38 (.bool (st1 == some [])))); (have HB4 := Lib.hid (((hB2.far (p := ⟨(w.heap.size + 1 + 1), 36, none⟩) (by show (w.heap.size + 1) ≠ (w.heap.size + 1 + 1); omega) (.int .i64 (leftV st1 : Nat))).far (p := ⟨(w.heap.size + 1 + 1), 37, none⟩) (by show (w.heap.size + 1) ≠ (w.heap.size + 1 + 1); omega) (.int .i64 (errX m st1))).far (p := ⟨(w.heap.size + 1 + 1), 38, none⟩) (by show (w.heap.size + 1) ≠ (w.heap.size + 1 + 1); omega) (.bool (st1 == some [])))); (have HX5 := Lib.hid hx5); (have HG2 := Lib.hid hg2); clear hr2 hg2 hC2 hB2 hx3 hC3 hx4 hC3b hx5)
    | (go_at_call 23; refine HE.out.mono ?_; rintro e w3 ⟨rfl, rfl⟩)
    | (go_at_call 22; refine HEN.out.mono ?_; rintro e w4 ⟨rfl, rfl⟩; have HC5 := HC4))
  have hg := ((((((Gs.of_qt HQ3.out : Gs m.S w _).tr HG1.out).setN (g := (w.heap.size + 1 + 1)) (i := 0) (by omega) (.int .i64 (num 2 st : Nat))).tr HG2.out).setN (g := (w.heap.size + 1 + 1)) (i := 36) (by omega) (.int .i64 (leftV st1 : Nat))).setN (g := (w.heap.size + 1 + 1)) (i := 37) (by omega) (.int .i64 (errX m st1))).setN (g := (w.heap.size + 1 + 1)) (i := 38) (by omega) (.bool (st1 == some []))
  refine bodyPost_ret (v := .agg (toldK x st (leftV (st1)) (errX m (st1)) (st1 == some []) 1).toArray) (results_cell_row rfl _ _ (w.heap.size + 1) 49 _ (0, 0) (.struct fs) rfl (blk_setRow HB4.out (toldK x st (leftV (st1)) (errX m (st1)) (st1 == some []) 1)) HFS.out rfl HSZ.out) rfl ⟨rfl, ?_, hg.rowN (by omega) _⟩
  exact HX5.out.keep (fun k hk => setRow_other _ _ _ _ (by have := HLT.out _ hk; omega)) (keep_row HB4.out (told_keep _ _ _ _ _ _ _ _ _ _ _ _ _ _ _))
set_option maxRecDepth 100000 in
set_option maxHeartbeats 1000000 in
theorem tells_2 (p : Value) (m : RM) (x : PutD) (bv : Value) (st : Option (List Nat)) (w : World) (h : RdX w p m st) (hx : x.Ok) (hk : x.what % 10 = 2) :
    Calls Tryz.prog 14 #[p, .agg (putC x bv).toArray] w fun e w' => e = .returned (.agg (toldK x st (leftV (nxt 4 st)) (errX m (nxt 4 st)) (nxt 4 st == some []) 2).toArray) ∧ RdX w' p m (nxt 4 st) ∧ Gs m.S w w' := by
  have hq3 : Qt w (((w.alloc (.cells (putC x bv).toArray 28)).alloc (.cells toldZ.toArray 49)).alloc (.cells toldZ.toArray 49)) := (((Qt.refl w).alloc _).alloc _).alloc _
  have hA : ∀ o o', Blk (((w.alloc (.cells (putC x bv).toArray 28)).alloc o).alloc o') w.heap.size 28 (putC x bv) := fun o o' => ((show Blk (w.alloc (.cells (putC x bv).toArray 28)) w.heap.size 28 (putC x bv) from heap_alloc_new w _).alloc o).alloc o'
  have c0 : ∀ o o', (((w.alloc (.cells (putC x bv).toArray 28)).alloc o).alloc o').cell? ⟨w.heap.size, 0, none⟩ = some (.int .i64 x.what) := fun o o' => (hA o o').cell 0
  have c1 : ∀ o o', (((w.alloc (.cells (putC x bv).toArray 28)).alloc o).alloc o').cell? ⟨w.heap.size, 1, none⟩ = some (.int .i64 x.n) := fun o o' => (hA o o').cell 1
  have HB := Lib.hid ((alloc2_blk (w := w) (o := (.cells (putC x bv).toArray 28)) (t := 49) (c := toldZ)).alloc (.cells toldZ.toArray 49))
  have HC := Lib.hid (alloc3_blk (w := w) (o := (.cells (putC x bv).toArray 28)) (o' := (.cells toldZ.toArray 49)) (t := 49) (c := toldZ))
  have hlt := h.lt
  have hn1 : ¬m.S (w.heap.size + 1) := fun e => by have := hlt _ e; omega
  have hn2 : ¬m.S (w.heap.size + 1 + 1) := fun e => by have := hlt _ e; omega
  have hset : ∀ (W : World) i v k, m.S k → (W.setCell ⟨(w.heap.size + 1 + 1), i, none⟩ v).heap[k]? = W.heap[k]? := fun W i v k hk => Below.heap_setCell _ _ _ _ (by have := hlt _ hk; show k ≠ (w.heap.size + 1 + 1); omega)
  have HP := Lib.hid (fun w => pick_any x.what 10 w hx.w0 hx.w1 (by omega) (by omega))
  have hk' : Value.int .i64 (x.what % 10) = .int .i64 2 := by rw [hk]
  have HK := Lib.hid hk'
  obtain ⟨fs, hfs⟩ : ∃ fs, Tryz.prog.underlying 49 = some (.struct fs) := und_struct (by kernel_rfl)
  have HFS := Lib.hid hfs
  have HR := Lib.hid (U32_x p m st (((w.alloc (.cells (putC x bv).toArray 28)).alloc (.cells toldZ.toArray 49)).alloc (.cells toldZ.toArray 49)) (h.qt hq3))
  have HSZ := Lib.hid (show ((Tryz.prog).info? 49).map (·.size) = some (toldK x st (leftV (nxt 4 st)) (errX m (nxt 4 st)) (nxt 4 st == some []) 2).toArray.size from told_size _ _ _ Z32_len _ _ _ _ _)
  have HON := Lib.hid (show (toldK x st (leftV (nxt 4 st)) (errX m (nxt 4 st)) (nxt 4 st == some []) 2).toArray.all (·.oneCell') = true from told_one _ _ _ _ _ _ _ _)
  have HEQ := Lib.hid (show (toldZ.toArray).size = (toldK x st (leftV (nxt 4 st)) (errX m (nxt 4 st)) (nxt 4 st == some []) 2).toArray.size by rw [List.size_toArray, List.size_toArray]; exact (toldZ_39 0 0 Z32 Z32_len (str []) false 0 0 false).trans (toldZ_39 _ _ _ Z32_len _ _ _ _ _).symm)
  have HLT := Lib.hid hlt
  have HN1 := Lib.hid hn1
  have HN2 := Lib.hid hn2
  have HSET := Lib.hid hset
  have HQ3 := Lib.hid hq3
  have HX0 := Lib.hid h
  obtain ⟨st1, hst1⟩ : ∃ st1, st1 = nxt 4 st := ⟨_, rfl⟩
  rw [← hst1] at HR HSZ HON HEQ ⊢
  clear h hx hk hk' hq3 hA hlt hn1 hn2 hset hfs hst1
  go_enter Tryz.func14, Tryz.ntmps14
  go_wp2_with (first
    | (have _t := HC5; refine wpList_load_row rfl 49 (.tmp 5) rfl (w.heap.size + 1 + 1) rfl 49 _ (0, 0) (.struct fs) HC5.out HFS.out rfl HSZ.out ?_)
    | (have _t := HC5; refine wpList_store_row rfl 49 (.tmp 4) (.tmp 74) rfl (w.heap.size + 1) (toldK x st (leftV (st1)) (errX m (st1)) (st1 == some []) 2).toArray rfl rfl 49 _ HB4.out HSZ.out HEQ.out HON.out ?_)
    | (go_at_call 24; refine (HP.out _).mono ?_; rintro e w1 ⟨rfl, rfl⟩; rw [HK.out])
    | (go_at_call 45; refine HR.out.mono ?_; rintro e w1 ⟨rfl, hr1, hg1⟩; (have hC1 := hg1.blk HC.out HN2.out); (have hB1 := hg1.blk HB.out HN1.out); (have cc : w1.cell? ⟨w.heap.size + 1 + 1, 0, none⟩ = some (.int .i64 0) := hC1.cell 0); (have ff : w1.frozen? ⟨w.heap.size + 1 + 1, 0, none⟩ = false := hC1.frozen 0); (have HL := Lib.hid (Left_x p m st1 (w1.setCell ⟨(w.heap.size + 1 + 1), 0, none⟩ (.int .i64 (num 4 st : Nat))) (hr1.keep (HSET.out w1 0 (.int .i64 (num 4 st : Nat))) (keep_set (.int .i64 (num 4 st : Nat)) hC1 rfl (fun _ e => by cases e))))); (have HB1 := Lib.hid hB1); (have HC1 := Lib.hid hC1); (have HG1 := Lib.hid hg1); clear hr1 hC1 hB1 hg1)
    | (go_at_call 50; refine HL.out.mono ?_; rintro e w2 ⟨rfl, hr2, hg2⟩; rw [leftN_id] at hr2; (have hC2 := hg2.blk (HC1.out.set 0 (.int .i64 (num 4 st : Nat))) HN2.out); (have hB2 := hg2.blk (HB1.out.far (p := ⟨(w.heap.size + 1 + 1), 0, none⟩) (by show (w.heap.size + 1) ≠ (w.heap.size + 1 + 1); omega) (.int .i64 (num 4 st : Nat))) HN1.out); (have c36 : w2.cell? ⟨w.heap.size + 1 + 1, 36, none⟩ = some (.int .i64 0) := hC2.cell 36); (have c37 : w2.cell? ⟨w.heap.size + 1 + 1, 37, none⟩ = some (.int .i64 0) := hC2.cell 37); (have c38 : w2.cell? ⟨w.heap.size + 1 + 1, 38, none⟩ = some (.bool false) := hC2.cell 38); (have f36 : w2.frozen? ⟨w.heap.size + 1 + 1, 36, none⟩ = false := hC2.frozen 36); (have f37 : w2.frozen? ⟨w.heap.size + 1 + 1, 37, none⟩ = false := hC2.frozen 37); (have f38 : w2.frozen? ⟨w.heap.size + 1 + 1, 38, none⟩ = false := hC2.frozen 38); (have hx3 := hr2.keep (HSET.out w2 36 (.int .i64 (leftV st1 : Nat))) (keep_set (.int .i64 (leftV st1 : Nat)) hC2 (old := .int .i64 0) rfl (fun _ e => by cases e))); (have hC3 := hC2.set 36 (.int .i64 (leftV st1 : Nat))); (have hx4 := hx3.keep (HSET.out _ 37 (.int .i64 (errX m st1))) (keep_set (.int .i64 (errX m st1)) hC3 (old := .int .i64 0) rfl (fun _ e => by cases e))); (have hC3b := hC3.set 37 (.int .i64 (errX m st1))); (have hx5 := hx4.keep (HSET.out _ 38 (.bool (st1 == some []))) (keep_set (.bool (st1 == some [])) hC3b (old := .bool false) rfl (fun _ e => by cases e))); (have HE := Lib.hid (Err_x p m st1 _ hx3)); (have HEN := Lib.hid (End_x p m st1 _ hx4)); (have HC4 : Hid (Blk (((w2.setCell ⟨(w.heap.size + 1 + 1), 36, none⟩ (.int .i64 (leftV st1 : Nat))).setCell ⟨(w.heap.size + 1 + 1), 37, none⟩ (.int .i64 (errX m st1))).setCell ⟨(w.heap.size + 1 + 1), 38, none⟩ (.bool (st1 == some []))) (w.heap.size + 1 + 1) 49 (toldK x st (leftV (st1)) (errX m (st1)) (st1 == some []) 2)) := Lib.hid (hC3b.set 38 (.bool (st1 == some [])))); (have HB4 := Lib.hid (((hB2.far (p := ⟨(w.heap.size + 1 + 1), 36, none⟩) (by show (w.heap.size + 1) ≠ (w.heap.size + 1 + 1); omega) (.int .i64 (leftV st1 : Nat))).far (p := ⟨(w.heap.size + 1 + 1), 37, none⟩) (by show (w.heap.size + 1) ≠ (w.heap.size + 1 + 1); omega) (.int .i64 (errX m st1))).far (p := ⟨(w.heap.size + 1 + 1), 38, none⟩) (by show (w.heap.size + 1) ≠ (w.heap.size + 1 + 1); omega) (.bool (st1 == some [])))); (have HX5 := Lib.hid hx5); (have HG2 := Lib.hid hg2); clear hr2 hg2 hC2 hB2 hx3 hC3 hx4 hC3b hx5)
    | (go_at_call 23; refine HE.out.mono ?_; rintro e w3 ⟨rfl, rfl⟩)
    | (go_at_call 22; refine HEN.out.mono ?_; rintro e w4 ⟨rfl, rfl⟩; have HC5 := HC4))
  have hg := ((((((Gs.of_qt HQ3.out : Gs m.S w _).tr HG1.out).setN (g := (w.heap.size + 1 + 1)) (i := 0) (by omega) (.int .i64 (num 4 st : Nat))).tr HG2.out).setN (g := (w.heap.size + 1 + 1)) (i := 36) (by omega) (.int .i64 (leftV st1 : Nat))).setN (g := (w.heap.size + 1 + 1)) (i := 37) (by omega) (.int .i64 (errX m st1))).setN (g := (w.heap.size + 1 + 1)) (i := 38) (by omega) (.bool (st1 == some []))
  refine bodyPost_ret (v := .agg (toldK x st (leftV (st1)) (errX m (st1)) (st1 == some []) 2).toArray) (results_cell_row rfl _ _ (w.heap.size + 1) 49 _ (0, 0) (.struct fs) rfl (blk_setRow HB4.out (toldK x st (leftV (st1)) (errX m (st1)) (st1 == some []) 2)) HFS.out rfl HSZ.out) rfl ⟨rfl, ?_, hg.rowN (by omega) _⟩
  exact HX5.out.keep (fun k hk => setRow_other _ _ _ _ (by have := HLT.out _ hk; omega)) (keep_row HB4.out (told_keep _ _ _ _ _ _ _ _ _ _ _ _ _ _ _))
set_option maxRecDepth 100000 in
set_option maxHeartbeats 1000000 in
theorem tells_3 (p : Value) (m : RM) (x : PutD) (bv : Value) (st : Option (List Nat)) (w : World) (h : RdX w p m st) (hx : x.Ok) (hk : x.what % 10 = 3) :
    Calls Tryz.prog 14 #[p, .agg (putC x bv).toArray] w fun e w' => e = .returned (.agg (toldK x st (leftV (nxt 8 st)) (errX m (nxt 8 st)) (nxt 8 st == some []) 3).toArray) ∧ RdX w' p m (nxt 8 st) ∧ Gs m.S w w' := by
  have hq3 : Qt w (((w.alloc (.cells (putC x bv).toArray 28)).alloc (.cells toldZ.toArray 49)).alloc (.cells toldZ.toArray 49)) := (((Qt.refl w).alloc _).alloc _).alloc _
  have hA : ∀ o o', Blk (((w.alloc (.cells (putC x bv).toArray 28)).alloc o).alloc o') w.heap.size 28 (putC x bv) := fun o o' => ((show Blk (w.alloc (.cells (putC x bv).toArray 28)) w.heap.size 28 (putC x bv) from heap_alloc_new w _).alloc o).alloc o'
  have c0 : ∀ o o', (((w.alloc (.cells (putC x bv).toArray 28)).alloc o).alloc o').cell? ⟨w.heap.size, 0, none⟩ = some (.int .i64 x.what) := fun o o' => (hA o o').cell 0
  have c1 : ∀ o o', (((w.alloc (.cells (putC x bv).toArray 28)).alloc o).alloc o').cell? ⟨w.heap.size, 1, none⟩ = some (.int .i64 x.n) := fun o o' => (hA o o').cell 1
  have HB := Lib.hid ((alloc2_blk (w := w) (o := (.cells (putC x bv).toArray 28)) (t := 49) (c := toldZ)).alloc (.cells toldZ.toArray 49))
  have HC := Lib.hid (alloc3_blk (w := w) (o := (.cells (putC x bv).toArray 28)) (o' := (.cells toldZ.toArray 49)) (t := 49) (c := toldZ))
  have hlt := h.lt
  have hn1 : ¬m.S (w.heap.size + 1) := fun e => by have := hlt _ e; omega
  have hn2 : ¬m.S (w.heap.size + 1 + 1) := fun e => by have := hlt _ e; omega
  have hset : ∀ (W : World) i v k, m.S k → (W.setCell ⟨(w.heap.size + 1 + 1), i, none⟩ v).heap[k]? = W.heap[k]? := fun W i v k hk => Below.heap_setCell _ _ _ _ (by have := hlt _ hk; show k ≠ (w.heap.size + 1 + 1); omega)
  have HP := Lib.hid (fun w => pick_any x.what 10 w hx.w0 hx.w1 (by omega) (by omega))
  have hk' : Value.int .i64 (x.what % 10) = .int .i64 3 := by rw [hk]
  have HK := Lib.hid hk'
  obtain ⟨fs, hfs⟩ : ∃ fs, Tryz.prog.underlying 49 = some (.struct fs) := und_struct (by kernel_rfl)
  have HFS := Lib.hid hfs
  have HR := Lib.hid (U64_x p m st (((w.alloc (.cells (putC x bv).toArray 28)).alloc (.cells toldZ.toArray 49)).alloc (.cells toldZ.toArray 49)) (h.qt hq3))
  have HSZ := Lib.hid (show ((Tryz.prog).info? 49).map (·.size) = some (toldK x st (leftV (nxt 8 st)) (errX m (nxt 8 st)) (nxt 8 st == some []) 3).toArray.size from told_size _ _ _ Z32_len _ _ _ _ _)
  have HON := Lib.hid (show (toldK x st (leftV (nxt 8 st)) (errX m (nxt 8 st)) (nxt 8 st == some []) 3).toArray.all (·.oneCell') = true from told_one _ _ _ _ _ _ _ _)
  have HEQ := Lib.hid (show (toldZ.toArray).size = (toldK x st (leftV (nxt 8 st)) (errX m (nxt 8 st)) (nxt 8 st == some []) 3).toArray.size by rw [List.size_toArray, List.size_toArray]; exact (toldZ_39 0 0 Z32 Z32_len (str []) false 0 0 false).trans (toldZ_39 _ _ _ Z32_len _ _ _ _ _).symm)
  have HLT := Lib.hid hlt
  have HN1 := Lib.hid hn1
  have HN2 := Lib.hid hn2
  have HSET := Lib.hid hset
  have HQ3 := Lib.hid hq3
  have HX0 := Lib.hid h
  obtain ⟨st1, hst1⟩ : ∃ st1, st1 = nxt 8 st := ⟨_, rfl⟩
  rw [← hst1] at HR HSZ HON HEQ ⊢
  clear h hx hk hk' hq3 hA hlt hn1 hn2 hset hfs hst1
  go_enter Tryz.func14, Tryz.ntmps14
  go_wp2_with (first
    | (have _t := HC5; refine wpList_load_row rfl 49 (.tmp 5) rfl (w.heap.size + 1 + 1) rfl 49 _ (0, 0) (.struct fs) HC5.out HFS.out rfl HSZ.out ?_)
    | (have _t := HC5; refine wpList_store_row rfl 49 (.tmp 4) (.tmp 74) rfl (w.heap.size + 1) (toldK x st (leftV (st1)) (errX m (st1)) (st1 == some []) 3).toArray rfl rfl 49 _ HB4.out HSZ.out HEQ.out HON.out ?_)
    | (go_at_call 24; refine (HP.out _).mono ?_; rintro e w1 ⟨rfl, rfl⟩; rw [HK.out])
    | (go_at_call 46; refine HR.out.mono ?_; rintro e w1 ⟨rfl, hr1, hg1⟩; (have hC1 := hg1.blk HC.out HN2.out); (have hB1 := hg1.blk HB.out HN1.out); (have cc : w1.cell? ⟨w.heap.size + 1 + 1, 1, none⟩ = some (.int .u64 ((0 : Nat) : Int)) := hC1.cell 1); (have ff : w1.frozen? ⟨w.heap.size + 1 + 1, 1, none⟩ = false := hC1.frozen 1); (have HL := Lib.hid (Left_x p m st1 (w1.setCell ⟨(w.heap.size + 1 + 1), 1, none⟩ (.int .u64 (num 8 st : Nat))) (hr1.keep (HSET.out w1 1 (.int .u64 (num 8 st : Nat))) (keep_set (.int .u64 (num 8 st : Nat)) hC1 rfl (fun _ e => by cases e))))); (have HB1 := Lib.hid hB1); (have HC1 := Lib.hid hC1); (have HG1 := Lib.hid hg1); clear hr1 hC1 hB1 hg1)
    | (go_at_call 50; refine HL.out.mono ?_; rintro e w2 ⟨rfl, hr2, hg2⟩; rw [leftN_id] at hr2; (have hC2 := hg2.blk (HC1.out.set 1 (.int .u64 (num 8 st : Nat))) HN2.out); (have hB2 := hg2.blk (HB1.out.far (p := ⟨(w.heap.size + 1 + 1), 1, none⟩) (by show (w.heap.size + 1) ≠ (w.heap.size + 1 + 1); omega) (.int .u64 (num 8 st : Nat))) HN1.out); (have c36 : w2.cell? ⟨w.heap.size + 1 + 1, 36, none⟩ = some (.int .i64 0) := hC2.cell 36); (have c37 : w2.cell? ⟨w.heap.size + 1 + 1, 37, none⟩ = some (.int .i64 0) := hC2.cell 37); (have c38 : w2.cell? ⟨w.heap.size + 1 + 1, 38, none⟩ = some (.bool false) := hC2.cell 38); (have f36 : w2.frozen? ⟨w.heap.size + 1 + 1, 36, none⟩ = false := hC2.frozen 36); (have f37 : w2.frozen? ⟨w.heap.size + 1 + 1, 37, none⟩ = false := hC2.frozen 37); (have f38 : w2.frozen? ⟨w.heap.size + 1 + 1, 38, none⟩ = false := hC2.frozen 38); (have hx3 := hr2.keep (HSET.out w2 36 (.int .i64 (leftV st1 : Nat))) (keep_set (.int .i64 (leftV st1 : Nat)) hC2 (old := .int .i64 0) rfl (fun _ e => by cases e))); (have hC3 := hC2.set 36 (.int .i64 (leftV st1 : Nat))); (have hx4 := hx3.keep (HSET.out _ 37 (.int .i64 (errX m st1))) (keep_set (.int .i64 (errX m st1)) hC3 (old := .int .i64 0) rfl (fun _ e => by cases e))); (have hC3b := hC3.set 37 (.int .i64 (errX m st1))); (have hx5 := hx4.keep (HSET.out _ 38 (.bool (st1 == some []))) (keep_set (.bool (st1 == some [])) hC3b (old := .bool false) rfl (fun _ e => by cases e))); (have HE := Lib.hid (Err_x p m st1 _ hx3)); (have HEN := Lib.hid (End_x p m st1 _ hx4)); (have HC4 : Hid (Blk (((w2.setCell ⟨(w.heap.size + 1 + 1), 36, none⟩ (.int .i64 (leftV st1 : Nat))).setCell ⟨(w.heap.size + 1 + 1), 37, none⟩ (.int .i64 (errX m st1))).setCell ⟨(w.heap.size + 1 + 1), 38, none⟩ (.bool (st1 == some []))) (w.heap.size + 1 + 1) 49 (toldK x st (leftV (st1)) (errX m (st1)) (st1 == some []) 3)) := Lib.hid (hC3b.set 38 (.bool (st1 == some [])))); (have HB4 := Lib.hid (((hB2.far (p := ⟨(w.heap.size + 1 + 1), 36, none⟩) (by show (w.heap.size + 1) ≠ (w.heap.size + 1 + 1); omega) (.int .i64 (leftV st1 : Nat))).far (p := ⟨(w.heap.size + 1 + 1), 37, none⟩) (by show (w.heap.size + 1) ≠ (w.heap.size + 1 + 1); omega) (.int .i64 (errX m st1))).far (p := ⟨(w.heap.size + 1 + 1), 38, none⟩) (by show (w.heap.size + 1) ≠ (w.heap.size + 1 + 1); omega) (.bool (st1 == some [])))); (have HX5 := Lib.hid hx5); (have HG2 := Lib.hid hg2); clear hr2 hg2 hC2 hB2 hx3 hC3 hx4 hC3b hx5)
    | (go_at_call 23; refine HE.out.mono ?_; rintro e w3 ⟨rfl, rfl⟩)
    | (go_at_call 22; refine HEN.out.mono ?_; rintro e w4 ⟨rfl, rfl⟩; have HC5 := HC4))
  have hg := ((((((Gs.of_qt HQ3.out : Gs m.S w _).tr HG1.out).setN (g := (w.heap.size + 1 + 1)) (i := 1) (by omega) (.int .u64 (num 8 st : Nat))).tr HG2.out).setN (g := (w.heap.size + 1 + 1)) (i := 36) (by omega) (.int .i64 (leftV st1 : Nat))).setN (g := (w.heap.size + 1 + 1)) (i := 37) (by omega) (.int .i64 (errX m st1))).setN (g := (w.heap.size + 1 + 1)) (i := 38) (by omega) (.bool (st1 == some []))
  refine bodyPost_ret (v := .agg (toldK x st (leftV (st1)) (errX m (st1)) (st1 == some []) 3).toArray) (results_cell_row rfl _ _ (w.heap.size + 1) 49 _ (0, 0) (.struct fs) rfl (blk_setRow HB4.out (toldK x st (leftV (st1)) (errX m (st1)) (st1 == some []) 3)) HFS.out rfl HSZ.out) rfl ⟨rfl, ?_, hg.rowN (by omega) _⟩
  exact HX5.out.keep (fun k hk => setRow_other _ _ _ _ (by have := HLT.out _ hk; omega)) (keep_row HB4.out (told_keep _ _ _ _ _ _ _ _ _ _ _ _ _ _ _))
end Go.Proofs.YtajkmblcphdnbaaGreat
