import Derived.Test.YtajkmblcphdnbaaGreatVK
/-! wants: printed by gentells.py. -/
namespace Go.Proofs.YtajkmblcphdnbaaGreat
open Go.RowKit
set_option linter.unusedVariables false
set_option linter.unusedSimpArgs false

set_option maxRecDepth 100000 in
set_option maxHeartbeats 1000000 in
theorem wants_4 (p : Value) (m : RM) (x : PutD) (bv : Value) (st : Option (List Nat)) (w : World) (h : RfX w p m st) (hx : x.Ok) (hk : x.what % 10 = 4) :
    Calls Tryz.prog 15 #[p, .agg (putC x bv).toArray] w fun e w' => e = .returned (.agg (toldK x st (leftV (nxt 8 st)) (errX m (nxt 8 st)) (nxt 8 st == some []) 4).toArray) ∧ RfX w' p m (nxt 8 st) ∧ Gs m.S w w' := by
  have hq3 : Qt w (((w.alloc (.cells (putC x bv).toArray 28)).alloc (.cells toldZ.toArray 49)).alloc (.cells toldZ.toArray 49)) := (((Qt.refl w).alloc _).alloc _).alloc _
  have hA : ∀ o o', Blk (((w.alloc (.cells (putC x bv).toArray 28)).alloc o).alloc o') w.heap.size 28 (putC x bv) := fun o o' => ((show Blk (w.alloc (.cells (putC x bv).toArray 28)) w.heap.size 28 (putC x bv) from heap_alloc_new w _).alloc o).alloc o'
  have c0 : ∀ o o', (((w.alloc (.cells (putC x bv).toArray 28)).alloc o).alloc o').cell? ⟨w.heap.size, 0, none⟩ = some (.int .i64 x.what) := fun o o' => (hA o o').cell 0
  have c1 : ∀ o o', (((w.alloc (.cells (putC x bv).toArray 28)).alloc o).alloc o').cell? ⟨w.heap.size, 1, none⟩ = some (.int .i64 x.n) := fun o o' => (hA o o').cell 1
  have HB := Lib.hid ((alloc2_blk (w := w) (o := (.cells (putC x bv).toArray 28)) (t := 49) (c := toldZ)).alloc (.cells toldZ.toArray 49))
  have HC := Lib.hid (alloc3_blk (w := w) (o := (.cells (putC x bv).toArray 28)) (o' := (.cells toldZ.toArray 49)) (t := 49) (c := toldZ))
  have hlt := h.lt
  have hn1 : ¬m.S (w.heap.size + 1) := fun e => by have := hlt _ e; omega
  have hn2 : ¬m.S (w.heap.size + 1 + 1) := fun e => by have := hlt _ e; omega
  have hset : ∀ (W : World) i v k, m.S k → (W.setCell ⟨(w.heap.size + 1 + 1), i, none⟩ v).heap[k]? = W.heap[k]? := fun W i v k hk => Below.heap_setCell _ _ _ _ (by have := hlt _ hk; show k ≠ (w.heap.size + 1 + 1); omega)
  have HP := Lib.hid (fun w => pick_any x.what 10 w hx.w0 hx.w1 (by omega) (by omega))
  have hk' : Value.int .i64 (x.what % 10) = .int .i64 4 := by rw [hk]
  have HK := Lib.hid hk'
  obtain ⟨fs, hfs⟩ : ∃ fs, Tryz.prog.underlying 49 = some (.struct fs) := und_struct (by kernel_rfl)
  have HFS := Lib.hid hfs
  have HR := Lib.hid (rI64_x p m st (((w.alloc (.cells (putC x bv).toArray 28)).alloc (.cells toldZ.toArray 49)).alloc (.cells toldZ.toArray 49)) (h.qt hq3))
  have hn8 := h.num8
  have hu := u64_of_i64 (num 8 st) hn8
  have HSZ := Lib.hid (show ((Tryz.prog).info? 49).map (·.size) = some (toldK x st (leftV (nxt 8 st)) (errX m (nxt 8 st)) (nxt 8 st == some []) 4).toArray.size from told_size _ _ _ Z32_len _ _ _ _ _)
  have HON := Lib.hid (show (toldK x st (leftV (nxt 8 st)) (errX m (nxt 8 st)) (nxt 8 st == some []) 4).toArray.all (·.oneCell') = true from told_one _ _ _ _ _ _ _ _)
  have HEQ := Lib.hid (show (toldZ.toArray).size = (toldK x st (leftV (nxt 8 st)) (errX m (nxt 8 st)) (nxt 8 st == some []) 4).toArray.size by rw [List.size_toArray, List.size_toArray]; exact (toldZ_39 0 0 Z32 Z32_len (str []) false 0 0 false).trans (toldZ_39 _ _ _ Z32_len _ _ _ _ _).symm)
  have HLT := Lib.hid hlt
  have HN1 := Lib.hid hn1
  have HN2 := Lib.hid hn2
  have HSET := Lib.hid hset
  have HQ3 := Lib.hid hq3
  have HX0 := Lib.hid h
  obtain ⟨st1, hst1⟩ : ∃ st1, st1 = nxt 8 st := ⟨_, rfl⟩
  rw [← hst1] at HR HSZ HON HEQ ⊢
  clear h hx hk hk' hq3 hA hlt hn1 hn2 hset hfs hst1
  go_enter Tryz.func15, Tryz.ntmps15
  go_wp2_with (first
    | (have _t := HC5; refine wpList_load_row rfl 49 (.tmp 5) rfl (w.heap.size + 1 + 1) rfl 49 _ (0, 0) (.struct fs) HC5.out HFS.out rfl HSZ.out ?_)
    | (have _t := HC5; refine wpList_store_row rfl 49 (.tmp 4) (.tmp 74) rfl (w.heap.size + 1) (toldK x st (leftV (st1)) (errX m (st1)) (st1 == some []) 4).toArray rfl rfl 49 _ HB4.out HSZ.out HEQ.out HON.out ?_)
    | (go_at_call 24; refine (HP.out _).mono ?_; rintro e w1 ⟨rfl, rfl⟩; rw [HK.out])
    | (go_at_call 55; refine HR.out.mono ?_; rintro e w1 ⟨rfl, hr1, hg1⟩; (have hC1 := hg1.blk HC.out HN2.out); (have hB1 := hg1.blk HB.out HN1.out); (have cc : w1.cell? ⟨w.heap.size + 1 + 1, 1, none⟩ = some (.int .u64 ((0 : Nat) : Int)) := hC1.cell 1); (have ff : w1.frozen? ⟨w.heap.size + 1 + 1, 1, none⟩ = false := hC1.frozen 1); (have HL := Lib.hid (rLeft_x p m st1 (w1.setCell ⟨(w.heap.size + 1 + 1), 1, none⟩ (.int .u64 (num 8 st : Nat))) (hr1.keep (HSET.out w1 1 (.int .u64 (num 8 st : Nat))) (keep_set (.int .u64 (num 8 st : Nat)) hC1 rfl (fun _ e => by cases e))))); (have HB1 := Lib.hid hB1); (have HC1 := Lib.hid hC1); (have HG1 := Lib.hid hg1); clear hr1 hC1 hB1 hg1)
    | (go_at_call 61; refine HL.out.mono ?_; rintro e w2 ⟨rfl, hr2, hg2⟩; rw [leftN_id] at hr2; (have hC2 := hg2.blk (HC1.out.set 1 (.int .u64 (num 8 st : Nat))) HN2.out); (have hB2 := hg2.blk (HB1.out.far (p := ⟨(w.heap.size + 1 + 1), 1, none⟩) (by show (w.heap.size + 1) ≠ (w.heap.size + 1 + 1); omega) (.int .u64 (num 8 st : Nat))) HN1.out); (have c36 : w2.cell? ⟨w.heap.size + 1 + 1, 36, none⟩ = some (.int .i64 0) := hC2.cell 36); (have c37 : w2.cell? ⟨w.heap.size + 1 + 1, 37, none⟩ = some (.int .i64 0) := hC2.cell 37); (have c38 : w2.cell? ⟨w.heap.size + 1 + 1, 38, none⟩ = some (.bool false) := hC2.cell 38); (have f36 : w2.frozen? ⟨w.heap.size + 1 + 1, 36, none⟩ = false := hC2.frozen 36); (have f37 : w2.frozen? ⟨w.heap.size + 1 + 1, 37, none⟩ = false := hC2.frozen 37); (have f38 : w2.frozen? ⟨w.heap.size + 1 + 1, 38, none⟩ = false := hC2.frozen 38); (have hx3 := hr2.keep (HSET.out w2 36 (.int .i64 (leftV st1 : Nat))) (keep_set (.int .i64 (leftV st1 : Nat)) hC2 (old := .int .i64 0) rfl (fun _ e => by cases e))); (have hC3 := hC2.set 36 (.int .i64 (leftV st1 : Nat))); (have hx4 := hx3.keep (HSET.out _ 37 (.int .i64 (errX m st1))) (keep_set (.int .i64 (errX m st1)) hC3 (old := .int .i64 0) rfl (fun _ e => by cases e))); (have hC3b := hC3.set 37 (.int .i64 (errX m st1))); (have hx5 := hx4.keep (HSET.out _ 38 (.bool (st1 == some []))) (keep_set (.bool (st1 == some [])) hC3b (old := .bool false) rfl (fun _ e => by cases e))); (have HE := Lib.hid (rErr_x p m st1 _ hx3)); (have HEN := Lib.hid (rEnd_x p m st1 _ hx4)); (have HC4 : Hid (Blk (((w2.setCell ⟨(w.heap.size + 1 + 1), 36, none⟩ (.int .i64 (leftV st1 : Nat))).setCell ⟨(w.heap.size + 1 + 1), 37, none⟩ (.int .i64 (errX m st1))).setCell ⟨(w.heap.size + 1 + 1), 38, none⟩ (.bool (st1 == some []))) (w.heap.size + 1 + 1) 49 (toldK x st (leftV (st1)) (errX m (st1)) (st1 == some []) 4)) := Lib.hid (hC3b.set 38 (.bool (st1 == some [])))); (have HB4 := Lib.hid (((hB2.far (p := ⟨(w.heap.size + 1 + 1), 36, none⟩) (by show (w.heap.size + 1) ≠ (w.heap.size + 1 + 1); omega) (.int .i64 (leftV st1 : Nat))).far (p := ⟨(w.heap.size + 1 + 1), 37, none⟩) (by show (w.heap.size + 1) ≠ (w.heap.size + 1 + 1); omega) (.int .i64 (errX m st1))).far (p := ⟨(w.heap.size + 1 + 1), 38, none⟩) (by show (w.heap.size + 1) ≠ (w.heap.size + 1 + 1); omega) (.bool (st1 == some [])))); (have HX5 := Lib.hid hx5); (have HG2 := Lib.hid hg2); clear hr2 hg2 hC2 hB2 hx3 hC3 hx4 hC3b hx5)
    | (go_at_call 62; refine HE.out.mono ?_; rintro e w3 ⟨rfl, rfl⟩)
    | (go_at_call 63; refine HEN.out.mono ?_; rintro e w4 ⟨rfl, rfl⟩; have HC5 := HC4))
  have hg := ((((((Gs.of_qt HQ3.out : Gs m.S w _).tr HG1.out).setN (g := (w.heap.size + 1 + 1)) (i := 1) (by omega) (.int .u64 (num 8 st : Nat))).tr HG2.out).setN (g := (w.heap.size + 1 + 1)) (i := 36) (by omega) (.int .i64 (leftV st1 : Nat))).setN (g := (w.heap.size + 1 + 1)) (i := 37) (by omega) (.int .i64 (errX m st1))).setN (g := (w.heap.size + 1 + 1)) (i := 38) (by omega) (.bool (st1 == some []))
  refine bodyPost_ret (v := .agg (toldK x st (leftV (st1)) (errX m (st1)) (st1 == some []) 4).toArray) (results_cell_row rfl _ _ (w.heap.size + 1) 49 _ (0, 0) (.struct fs) rfl (blk_setRow HB4.out (toldK x st (leftV (st1)) (errX m (st1)) (st1 == some []) 4)) HFS.out rfl HSZ.out) rfl ⟨rfl, ?_, hg.rowN (by omega) _⟩
  exact HX5.out.keep (fun k hk => setRow_other _ _ _ _ (by have := HLT.out _ hk; omega)) (keep_row HB4.out (told_keep _ _ _ _ _ _ _ _ _ _ _ _ _ _ _))
set_option maxRecDepth 100000 in
set_option maxHeartbeats 1000000 in
theorem wants_5 (p : Value) (m : RM) (x : PutD) (bv : Value) (st : Option (List Nat)) (w : World) (h : RfX w p m st) (hx : x.Ok) (hk : x.what % 10 = 5) :
    Calls Tryz.prog 15 #[p, .agg (putC x bv).toArray] w fun e w' => e = .returned (.agg (toldK x st (leftV (nxt 32 st)) (errX m (nxt 32 st)) (nxt 32 st == some []) 5).toArray) ∧ RfX w' p m (nxt 32 st) ∧ Gs m.S w w' := by
  have hq3 : Qt w (((w.alloc (.cells (putC x bv).toArray 28)).alloc (.cells toldZ.toArray 49)).alloc (.cells toldZ.toArray 49)) := (((Qt.refl w).alloc _).alloc _).alloc _
  have hA : ∀ o o', Blk (((w.alloc (.cells (putC x bv).toArray 28)).alloc o).alloc o') w.heap.size 28 (putC x bv) := fun o o' => ((show Blk (w.alloc (.cells (putC x bv).toArray 28)) w.heap.size 28 (putC x bv) from heap_alloc_new w _).alloc o).alloc o'
  have c0 : ∀ o o', (((w.alloc (.cells (putC x bv).toArray 28)).alloc o).alloc o').cell? ⟨w.heap.size, 0, none⟩ = some (.int .i64 x.what) := fun o o' => (hA o o').cell 0
  have c1 : ∀ o o', (((w.alloc (.cells (putC x bv).toArray 28)).alloc o).alloc o').cell? ⟨w.heap.size, 1, none⟩ = some (.int .i64 x.n) := fun o o' => (hA o o').cell 1
  have HB := Lib.hid ((alloc2_blk (w := w) (o := (.cells (putC x bv).toArray 28)) (t := 49) (c := toldZ)).alloc (.cells toldZ.toArray 49))
  have HC := Lib.hid (alloc3_blk (w := w) (o := (.cells (putC x bv).toArray 28)) (o' := (.cells toldZ.toArray 49)) (t := 49) (c := toldZ))
  have hlt := h.lt
  have hn1 : ¬m.S (w.heap.size + 1) := fun e => by have := hlt _ e; omega
  have hn2 : ¬m.S (w.heap.size + 1 + 1) := fun e => by have := hlt _ e; omega
  have hset : ∀ (W : World) i v k, m.S k → (W.setCell ⟨(w.heap.size + 1 + 1), i, none⟩ v).heap[k]? = W.heap[k]? := fun W i v k hk => Below.heap_setCell _ _ _ _ (by have := hlt _ hk; show k ≠ (w.heap.size + 1 + 1); omega)
  have HP := Lib.hid (fun w => pick_any x.what 10 w hx.w0 hx.w1 (by omega) (by omega))
  have hk' : Value.int .i64 (x.what % 10) = .int .i64 5 := by rw [hk]
  have HK := Lib.hid hk'
  obtain ⟨fs, hfs⟩ : ∃ fs, Tryz.prog.underlying 49 = some (.struct fs) := und_struct (by kernel_rfl)
  have HFS := Lib.hid hfs
  have HR := Lib.hid (rHash_xo p m st w (((w.alloc (.cells (putC x bv).toArray 28)).alloc (.cells toldZ.toArray 49)).alloc (.cells toldZ.toArray 49)) h hq3)
  have HSZ := Lib.hid (show ((Tryz.prog).info? 49).map (·.size) = some (toldK x st (leftV (nxt 32 st)) (errX m (nxt 32 st)) (nxt 32 st == some []) 5).toArray.size from told_size _ _ _ (hshV_len st) _ _ _ _ _)
  have HON := Lib.hid (show (toldK x st (leftV (nxt 32 st)) (errX m (nxt 32 st)) (nxt 32 st == some []) 5).toArray.all (·.oneCell') = true from told_one _ _ _ _ _ _ _ _)
  have HEQ := Lib.hid (show (toldZ.toArray).size = (toldK x st (leftV (nxt 32 st)) (errX m (nxt 32 st)) (nxt 32 st == some []) 5).toArray.size by rw [List.size_toArray, List.size_toArray]; exact (toldZ_39 0 0 Z32 Z32_len (str []) false 0 0 false).trans (toldZ_39 _ _ _ (hshV_len st) _ _ _ _ _).symm)
  have HLT := Lib.hid hlt
  have HN1 := Lib.hid hn1
  have HN2 := Lib.hid hn2
  have HSET := Lib.hid hset
  have HQ3 := Lib.hid hq3
  have HX0 := Lib.hid h
  obtain ⟨st1, hst1⟩ : ∃ st1, st1 = nxt 32 st := ⟨_, rfl⟩
  rw [← hst1] at HR HSZ HON HEQ ⊢
  have HR1 := Lib.hid (show ∀ k, m.S k → ¬(k = (w.heap.size + 1)) from fun k hk e => hn1 (e ▸ hk))
  have HR2 := Lib.hid (show ∀ k, m.S k → ¬(k = (w.heap.size + 1 + 1)) from fun k hk e => hn2 (e ▸ hk))
  have HAA := Lib.hid (show (w.heap.size + 1) ≠ (w.heap.size + 1 + 1) by omega)
  have HAW := Lib.hid (show w.heap.size ≤ (w.heap.size + 1 + 1) by omega)
  have HG3 := Lib.hid (Gs.of_qt (S := m.S) hq3)
  have HNN := Lib.hid (show st = none → st1 = none from fun e => by rw [hst1, e]; rfl)
  have HHV := Lib.hid (hshV_len st)
  have HHS := Lib.hid (size_hash (hshV st) (hshV_len st))
  have HHO := Lib.hid (u8s_all (hshV st))
  have HTH := Lib.hid (told_hash (hshV st) (hshV_len st))
  clear h hx hk hk' hq3 hA hlt hn1 hn2 hset hfs hst1
  go_enter Tryz.func15, Tryz.ntmps15
  go_wp2_with (first
    | (have _t := HC5; refine wpList_load_row rfl 49 (.tmp 5) rfl (w.heap.size + 1 + 1) rfl 49 _ (0, 0) (.struct fs) HC5.out HFS.out rfl HSZ.out ?_)
    | (have _t := HC5; refine wpList_store_row rfl 49 (.tmp 4) (.tmp 74) rfl (w.heap.size + 1) (toldK x st (leftV (st1)) (errX m (st1)) (st1 == some []) 5).toArray rfl rfl 49 _ HB4.out HSZ.out HEQ.out HON.out ?_)
    | (have _t := HC1; refine wpList_store_mid rfl 25 (.tmp 44) (.tmp 43) rfl (w.heap.size + 1 + 1) 2 (u8s (hshV st)).toArray rfl rfl (HC1.out.thereN (by rw [List.size_toArray, u8s_len, HHV.out]; decide)) HHS.out HHO.out ?_)
    | (go_at_call 24; refine (HP.out _).mono ?_; rintro e w1 ⟨rfl, rfl⟩; rw [HK.out])
    | (go_at_call 56; refine HR.out.mono ?_; rintro e w1 ⟨rfl, hr1, hg1⟩; (have hC1 := hg1.blk HC.out HN2.out); (have hB1 := hg1.blk HB.out HN1.out); (have hg0 : Gs m.S w (w1.setCells (w.heap.size + 1 + 1) 2 (u8s (hshV st))) := (HG3.out.tr hg1).midN HAW.out (u8s (hshV st))); (have hro : RfXO w (w1.setCells (w.heap.size + 1 + 1) 2 (u8s (hshV st))) p m st1 := hr1.gs (gs_mid w1 (w.heap.size + 1 + 1) 2 (u8s (hshV st))) HR2.out); (have HL := Lib.hid (rLeft_xo p m st1 st w _ hro HX0.out HNN.out hg0)); (have hCS := Blk.setCells (u8s (hshV st)) 2 _ _ hC1); rw [HTH.out] at hCS; (have hBS : Blk (w1.setCells (w.heap.size + 1 + 1) 2 (u8s (hshV st))) (w.heap.size + 1) 49 toldZ := blk_mid_far hB1 HAA.out); (have HBS := Lib.hid hBS); (have HCS := Lib.hid hCS); (have HC1 := Lib.hid hC1); (have HG0 := Lib.hid hg0); clear hr1 hC1 hB1 hg1 hg0 hro hCS hBS)
    | (go_at_call 61; refine HL.out.mono ?_; rintro e w2 ⟨rfl, hr2, hg2⟩; rw [leftN_id] at hr2; (have hC2 := hg2.blk HCS.out HN2.out); (have hB2 := hg2.blk HBS.out HN1.out); (have c36 : w2.cell? ⟨w.heap.size + 1 + 1, 36, none⟩ = some (.int .i64 0) := (hC2.cell 36).trans (told_36 _ HHV.out)); (have c37 : w2.cell? ⟨w.heap.size + 1 + 1, 37, none⟩ = some (.int .i64 0) := (hC2.cell 37).trans (told_37 _ HHV.out)); (have c38 : w2.cell? ⟨w.heap.size + 1 + 1, 38, none⟩ = some (.bool false) := (hC2.cell 38).trans (told_38 _ HHV.out)); (have f36 : w2.frozen? ⟨w.heap.size + 1 + 1, 36, none⟩ = false := hC2.frozen 36); (have f37 : w2.frozen? ⟨w.heap.size + 1 + 1, 37, none⟩ = false := hC2.frozen 37); (have f38 : w2.frozen? ⟨w.heap.size + 1 + 1, 38, none⟩ = false := hC2.frozen 38); (have hG2 := HG0.out.tr hg2); (have gset : ∀ (W : World) i v, Gs (fun k => k = (w.heap.size + 1 + 1)) W (W.setCell ⟨(w.heap.size + 1 + 1), i, none⟩ v) := fun W i v => Gs.of_og ((Og.refl (w.heap.size + 1 + 1) W).setCell (.inl rfl) v) rfl); (have hx3 := hr2.gs (gset w2 36 (.int .i64 (leftV st1 : Nat))) HR2.out); (have hC3 := hC2.set 36 (.int .i64 (leftV st1 : Nat))); (have hx4 := hx3.gs (gset _ 37 (.int .i64 (errX m st1))) HR2.out); (have hC3b := hC3.set 37 (.int .i64 (errX m st1))); (have hx5 := hx4.gs (gset _ 38 (.bool (st1 == some []))) HR2.out); (have HE := Lib.hid (rErr_x p m st1 _ (hx3.fin HX0.out HNN.out (hG2.setN (by omega) _)))); (have HEN := Lib.hid (rEnd_x p m st1 _ (hx4.fin HX0.out HNN.out ((hG2.setN (by omega) _).setN (by omega) _)))); (have HC4 : Hid (Blk (((w2.setCell ⟨(w.heap.size + 1 + 1), 36, none⟩ (.int .i64 (leftV st1 : Nat))).setCell ⟨(w.heap.size + 1 + 1), 37, none⟩ (.int .i64 (errX m st1))).setCell ⟨(w.heap.size + 1 + 1), 38, none⟩ (.bool (st1 == some []))) (w.heap.size + 1 + 1) 49 (toldK x st (leftV (st1)) (errX m (st1)) (st1 == some []) 5)) := Lib.hid (by have := hC3b.set 38 (.bool (st1 == some [])); rw [told_sets _ HHV.out] at this; exact this)); (have HB4 := Lib.hid (((hB2.far (p := ⟨(w.heap.size + 1 + 1), 36, none⟩) (by show (w.heap.size + 1) ≠ (w.heap.size + 1 + 1); omega) (.int .i64 (leftV st1 : Nat))).far (p := ⟨(w.heap.size + 1 + 1), 37, none⟩) (by show (w.heap.size + 1) ≠ (w.heap.size + 1 + 1); omega) (.int .i64 (errX m st1))).far (p := ⟨(w.heap.size + 1 + 1), 38, none⟩) (by show (w.heap.size + 1) ≠ (w.heap.size + 1 + 1); omega) (.bool (st1 == some [])))); (have HX5 := Lib.hid hx5); (have HG2 := Lib.hid hG2); clear hr2 hg2 hC2 hB2 hx3 hC3 hx4 hC3b hx5 hG2 gset)
    | (go_at_call 62; refine HE.out.mono ?_; rintro e w3 ⟨rfl, rfl⟩)
    | (go_at_call 63; refine HEN.out.mono ?_; rintro e w4 ⟨rfl, rfl⟩; have HC5 := HC4))
  have hg := (((HG2.out.setN (g := (w.heap.size + 1 + 1)) (i := 36) (by omega) (.int .i64 (leftV st1 : Nat))).setN (g := (w.heap.size + 1 + 1)) (i := 37) (by omega) (.int .i64 (errX m st1))).setN (g := (w.heap.size + 1 + 1)) (i := 38) (by omega) (.bool (st1 == some []))).rowN (g := (w.heap.size + 1)) (by omega) (toldK x st (leftV (st1)) (errX m (st1)) (st1 == some []) 5).toArray
  refine bodyPost_ret (v := .agg (toldK x st (leftV (st1)) (errX m (st1)) (st1 == some []) 5).toArray) (results_cell_row rfl _ _ (w.heap.size + 1) 49 _ (0, 0) (.struct fs) rfl (blk_setRow HB4.out (toldK x st (leftV (st1)) (errX m (st1)) (st1 == some []) 5)) HFS.out rfl HSZ.out) rfl ⟨rfl, ?_, hg⟩
  exact (HX5.out.gs (R := fun k => k = (w.heap.size + 1)) (Gs.of_og (og_setRow (Og.refl (w.heap.size + 1) _) (.inl rfl) _) rfl) HR1.out).fin HX0.out HNN.out hg
set_option maxRecDepth 100000 in
set_option maxHeartbeats 1000000 in
theorem wants_6 (p : Value) (m : RM) (x : PutD) (bv : Value) (st : Option (List Nat)) (w : World) (h : RfX w p m st) (hx : x.Ok) (hk : x.what % 10 = 6) :
    Calls Tryz.prog 15 #[p, .agg (putC x bv).toArray] w fun e w' => e = .returned (.agg (toldK x st (leftV (rawN x.n st)) (errX m (rawN x.n st)) (rawN x.n st == some []) 6).toArray) ∧ RfX w' p m (rawN x.n st) ∧ Gs m.S w w' := by
  have hq3 : Qt w (((w.alloc (.cells (putC x bv).toArray 28)).alloc (.cells toldZ.toArray 49)).alloc (.cells toldZ.toArray 49)) := (((Qt.refl w).alloc _).alloc _).alloc _
  have hA : ∀ o o', Blk (((w.alloc (.cells (putC x bv).toArray 28)).alloc o).alloc o') w.heap.size 28 (putC x bv) := fun o o' => ((show Blk (w.alloc (.cells (putC x bv).toArray 28)) w.heap.size 28 (putC x bv) from heap_alloc_new w _).alloc o).alloc o'
  have c0 : ∀ o o', (((w.alloc (.cells (putC x bv).toArray 28)).alloc o).alloc o').cell? ⟨w.heap.size, 0, none⟩ = some (.int .i64 x.what) := fun o o' => (hA o o').cell 0
  have c1 : ∀ o o', (((w.alloc (.cells (putC x bv).toArray 28)).alloc o).alloc o').cell? ⟨w.heap.size, 1, none⟩ = some (.int .i64 x.n) := fun o o' => (hA o o').cell 1
  have HB := Lib.hid ((alloc2_blk (w := w) (o := (.cells (putC x bv).toArray 28)) (t := 49) (c := toldZ)).alloc (.cells toldZ.toArray 49))
  have HC := Lib.hid (alloc3_blk (w := w) (o := (.cells (putC x bv).toArray 28)) (o' := (.cells toldZ.toArray 49)) (t := 49) (c := toldZ))
  have hlt := h.lt
  have hn1 : ¬m.S (w.heap.size + 1) := fun e => by have := hlt _ e; omega
  have hn2 : ¬m.S (w.heap.size + 1 + 1) := fun e => by have := hlt _ e; omega
  have hset : ∀ (W : World) i v k, m.S k → (W.setCell ⟨(w.heap.size + 1 + 1), i, none⟩ v).heap[k]? = W.heap[k]? := fun W i v k hk => Below.heap_setCell _ _ _ _ (by have := hlt _ hk; show k ≠ (w.heap.size + 1 + 1); omega)
  have HP := Lib.hid (fun w => pick_any x.what 10 w hx.w0 hx.w1 (by omega) (by omega))
  have hk' : Value.int .i64 (x.what % 10) = .int .i64 6 := by rw [hk]
  have HK := Lib.hid hk'
  obtain ⟨fs, hfs⟩ : ∃ fs, Tryz.prog.underlying 49 = some (.struct fs) := und_struct (by kernel_rfl)
  have HFS := Lib.hid hfs
  have HR := Lib.hid (rRaw_x p m x.n st (((w.alloc (.cells (putC x bv).toArray 28)).alloc (.cells toldZ.toArray 49)).alloc (.cells toldZ.toArray 49)) (h.qt hq3))
  have HSZ := Lib.hid (show ((Tryz.prog).info? 49).map (·.size) = some (toldK x st (leftV (rawN x.n st)) (errX m (rawN x.n st)) (rawN x.n st == some []) 6).toArray.size from told_size _ _ _ Z32_len _ _ _ _ _)
  have HON := Lib.hid (show (toldK x st (leftV (rawN x.n st)) (errX m (rawN x.n st)) (rawN x.n st == some []) 6).toArray.all (·.oneCell') = true from told_one _ _ _ _ _ _ _ _)
  have HEQ := Lib.hid (show (toldZ.toArray).size = (toldK x st (leftV (rawN x.n st)) (errX m (rawN x.n st)) (rawN x.n st == some []) 6).toArray.size by rw [List.size_toArray, List.size_toArray]; exact (toldZ_39 0 0 Z32 Z32_len (str []) false 0 0 false).trans (toldZ_39 _ _ _ Z32_len _ _ _ _ _).symm)
  have HLT := Lib.hid hlt
  have HN1 := Lib.hid hn1
  have HN2 := Lib.hid hn2
  have HSET := Lib.hid hset
  have HQ3 := Lib.hid hq3
  have HX0 := Lib.hid h
  obtain ⟨st1, hst1⟩ : ∃ st1, st1 = rawN x.n st := ⟨_, rfl⟩
  rw [← hst1] at HR HSZ HON HEQ ⊢
  clear h hx hk hk' hq3 hA hlt hn1 hn2 hset hfs hst1
  go_enter Tryz.func15, Tryz.ntmps15
  go_wp2_with (first
    | (have _t := HC5; refine wpList_load_row rfl 49 (.tmp 5) rfl (w.heap.size + 1 + 1) rfl 49 _ (0, 0) (.struct fs) HC5.out HFS.out rfl HSZ.out ?_)
    | (have _t := HC5; refine wpList_store_row rfl 49 (.tmp 4) (.tmp 74) rfl (w.heap.size + 1) (toldK x st (leftV (st1)) (errX m (st1)) (st1 == some []) 6).toArray rfl rfl 49 _ HB4.out HSZ.out HEQ.out HON.out ?_)
    | (go_at_call 24; refine (HP.out _).mono ?_; rintro e w1 ⟨rfl, rfl⟩; rw [HK.out])
    | (go_at_call 57; refine HR.out.mono ?_; rintro e w1 ⟨r, rfl, ho, hr1, hg1⟩; obtain ⟨ra, rc, rfl⟩ := ho.slice; (have hcv := conv_str (P := Tryz.prog) 26 5 (by kernel_rfl) (by kernel_rfl) (Rd.of_OQ ho) rfl 9 (by kernel_rfl)); clear ho; (have hC1 := hg1.blk HC.out HN2.out); (have hB1 := hg1.blk HB.out HN1.out); (have cc : w1.cell? ⟨w.heap.size + 1 + 1, 34, none⟩ = some (.string (str [])) := hC1.cell 34); (have ff : w1.frozen? ⟨w.heap.size + 1 + 1, 34, none⟩ = false := hC1.frozen 34); (have HL := Lib.hid (rLeft_x p m st1 (w1.setCell ⟨(w.heap.size + 1 + 1), 34, none⟩ (.string (str (rawB x.n st)))) (hr1.keep (HSET.out w1 34 (.string (str (rawB x.n st)))) (keep_set (.string (str (rawB x.n st))) hC1 rfl (fun _ e => by cases e))))); (have HB1 := Lib.hid hB1); (have HC1 := Lib.hid hC1); (have HG1 := Lib.hid hg1); clear hr1 hC1 hB1 hg1)
    | (go_at_call 61; refine HL.out.mono ?_; rintro e w2 ⟨rfl, hr2, hg2⟩; rw [leftN_id] at hr2; (have hC2 := hg2.blk (HC1.out.set 34 (.string (str (rawB x.n st)))) HN2.out); (have hB2 := hg2.blk (HB1.out.far (p := ⟨(w.heap.size + 1 + 1), 34, none⟩) (by show (w.heap.size + 1) ≠ (w.heap.size + 1 + 1); omega) (.string (str (rawB x.n st)))) HN1.out); (have c36 : w2.cell? ⟨w.heap.size + 1 + 1, 36, none⟩ = some (.int .i64 0) := hC2.cell 36); (have c37 : w2.cell? ⟨w.heap.size + 1 + 1, 37, none⟩ = some (.int .i64 0) := hC2.cell 37); (have c38 : w2.cell? ⟨w.heap.size + 1 + 1, 38, none⟩ = some (.bool false) := hC2.cell 38); (have f36 : w2.frozen? ⟨w.heap.size + 1 + 1, 36, none⟩ = false := hC2.frozen 36); (have f37 : w2.frozen? ⟨w.heap.size + 1 + 1, 37, none⟩ = false := hC2.frozen 37); (have f38 : w2.frozen? ⟨w.heap.size + 1 + 1, 38, none⟩ = false := hC2.frozen 38); (have hx3 := hr2.keep (HSET.out w2 36 (.int .i64 (leftV st1 : Nat))) (keep_set (.int .i64 (leftV st1 : Nat)) hC2 (old := .int .i64 0) rfl (fun _ e => by cases e))); (have hC3 := hC2.set 36 (.int .i64 (leftV st1 : Nat))); (have hx4 := hx3.keep (HSET.out _ 37 (.int .i64 (errX m st1))) (keep_set (.int .i64 (errX m st1)) hC3 (old := .int .i64 0) rfl (fun _ e => by cases e))); (have hC3b := hC3.set 37 (.int .i64 (errX m st1))); (have hx5 := hx4.keep (HSET.out _ 38 (.bool (st1 == some []))) (keep_set (.bool (st1 == some [])) hC3b (old := .bool false) rfl (fun _ e => by cases e))); (have HE := Lib.hid (rErr_x p m st1 _ hx3)); (have HEN := Lib.hid (rEnd_x p m st1 _ hx4)); (have HC4 : Hid (Blk (((w2.setCell ⟨(w.heap.size + 1 + 1), 36, none⟩ (.int .i64 (leftV st1 : Nat))).setCell ⟨(w.heap.size + 1 + 1), 37, none⟩ (.int .i64 (errX m st1))).setCell ⟨(w.heap.size + 1 + 1), 38, none⟩ (.bool (st1 == some []))) (w.heap.size + 1 + 1) 49 (toldK x st (leftV (st1)) (errX m (st1)) (st1 == some []) 6)) := Lib.hid (hC3b.set 38 (.bool (st1 == some [])))); (have HB4 := Lib.hid (((hB2.far (p := ⟨(w.heap.size + 1 + 1), 36, none⟩) (by show (w.heap.size + 1) ≠ (w.heap.size + 1 + 1); omega) (.int .i64 (leftV st1 : Nat))).far (p := ⟨(w.heap.size + 1 + 1), 37, none⟩) (by show (w.heap.size + 1) ≠ (w.heap.size + 1 + 1); omega) (.int .i64 (errX m st1))).far (p := ⟨(w.heap.size + 1 + 1), 38, none⟩) (by show (w.heap.size + 1) ≠ (w.heap.size + 1 + 1); omega) (.bool (st1 == some [])))); (have HX5 := Lib.hid hx5); (have HG2 := Lib.hid hg2); clear hr2 hg2 hC2 hB2 hx3 hC3 hx4 hC3b hx5)
    | (go_at_call 62; refine HE.out.mono ?_; rintro e w3 ⟨rfl, rfl⟩)
    | (go_at_call 63; refine HEN.out.mono ?_; rintro e w4 ⟨rfl, rfl⟩; have HC5 := HC4))
  have hg := ((((((Gs.of_qt HQ3.out : Gs m.S w _).tr HG1.out).setN (g := (w.heap.size + 1 + 1)) (i := 34) (by omega) (.string (str (rawB x.n st)))).tr HG2.out).setN (g := (w.heap.size + 1 + 1)) (i := 36) (by omega) (.int .i64 (leftV st1 : Nat))).setN (g := (w.heap.size + 1 + 1)) (i := 37) (by omega) (.int .i64 (errX m st1))).setN (g := (w.heap.size + 1 + 1)) (i := 38) (by omega) (.bool (st1 == some []))
  refine bodyPost_ret (v := .agg (toldK x st (leftV (st1)) (errX m (st1)) (st1 == some []) 6).toArray) (results_cell_row rfl _ _ (w.heap.size + 1) 49 _ (0, 0) (.struct fs) rfl (blk_setRow HB4.out (toldK x st (leftV (st1)) (errX m (st1)) (st1 == some []) 6)) HFS.out rfl HSZ.out) rfl ⟨rfl, ?_, hg.rowN (by omega) _⟩
  exact HX5.out.keep (fun k hk => setRow_other _ _ _ _ (by have := HLT.out _ hk; omega)) (keep_row HB4.out (told_keep _ _ _ _ _ _ _ _ _ _ _ _ _ _ _))
set_option maxRecDepth 100000 in
set_option maxHeartbeats 1000000 in
theorem wants_7 (p : Value) (m : RM) (x : PutD) (bv : Value) (st : Option (List Nat)) (w : World) (h : RfX w p m st) (hx : x.Ok) (hk : x.what % 10 = 7) :
    Calls Tryz.prog 15 #[p, .agg (putC x bv).toArray] w fun e w' => e = .returned (.agg (toldK x st (leftV (textN x.n st)) (errX m (textN x.n st)) (textN x.n st == some []) 7).toArray) ∧ RfX w' p m (textN x.n st) ∧ Gs m.S w w' := by
  have hq3 : Qt w (((w.alloc (.cells (putC x bv).toArray 28)).alloc (.cells toldZ.toArray 49)).alloc (.cells toldZ.toArray 49)) := (((Qt.refl w).alloc _).alloc _).alloc _
  have hA : ∀ o o', Blk (((w.alloc (.cells (putC x bv).toArray 28)).alloc o).alloc o') w.heap.size 28 (putC x bv) := fun o o' => ((show Blk (w.alloc (.cells (putC x bv).toArray 28)) w.heap.size 28 (putC x bv) from heap_alloc_new w _).alloc o).alloc o'
  have c0 : ∀ o o', (((w.alloc (.cells (putC x bv).toArray 28)).alloc o).alloc o').cell? ⟨w.heap.size, 0, none⟩ = some (.int .i64 x.what) := fun o o' => (hA o o').cell 0
  have c1 : ∀ o o', (((w.alloc (.cells (putC x bv).toArray 28)).alloc o).alloc o').cell? ⟨w.heap.size, 1, none⟩ = some (.int .i64 x.n) := fun o o' => (hA o o').cell 1
  have HB := Lib.hid ((alloc2_blk (w := w) (o := (.cells (putC x bv).toArray 28)) (t := 49) (c := toldZ)).alloc (.cells toldZ.toArray 49))
  have HC := Lib.hid (alloc3_blk (w := w) (o := (.cells (putC x bv).toArray 28)) (o' := (.cells toldZ.toArray 49)) (t := 49) (c := toldZ))
  have hlt := h.lt
  have hn1 : ¬m.S (w.heap.size + 1) := fun e => by have := hlt _ e; omega
  have hn2 : ¬m.S (w.heap.size + 1 + 1) := fun e => by have := hlt _ e; omega
  have hset : ∀ (W : World) i v k, m.S k → (W.setCell ⟨(w.heap.size + 1 + 1), i, none⟩ v).heap[k]? = W.heap[k]? := fun W i v k hk => Below.heap_setCell _ _ _ _ (by have := hlt _ hk; show k ≠ (w.heap.size + 1 + 1); omega)
  have HP := Lib.hid (fun w => pick_any x.what 10 w hx.w0 hx.w1 (by omega) (by omega))
  have hk' : Value.int .i64 (x.what % 10) = .int .i64 7 := by rw [hk]
  have HK := Lib.hid hk'
  obtain ⟨fs, hfs⟩ : ∃ fs, Tryz.prog.underlying 49 = some (.struct fs) := und_struct (by kernel_rfl)
  have HFS := Lib.hid hfs
  have HR := Lib.hid (rText_x p m x.n st (((w.alloc (.cells (putC x bv).toArray 28)).alloc (.cells toldZ.toArray 49)).alloc (.cells toldZ.toArray 49)) (h.qt hq3))
  have HSZ := Lib.hid (show ((Tryz.prog).info? 49).map (·.size) = some (toldK x st (leftV (textN x.n st)) (errX m (textN x.n st)) (textN x.n st == some []) 7).toArray.size from told_size _ _ _ Z32_len _ _ _ _ _)
  have HON := Lib.hid (show (toldK x st (leftV (textN x.n st)) (errX m (textN x.n st)) (textN x.n st == some []) 7).toArray.all (·.oneCell') = true from told_one _ _ _ _ _ _ _ _)
  have HEQ := Lib.hid (show (toldZ.toArray).size = (toldK x st (leftV (textN x.n st)) (errX m (textN x.n st)) (textN x.n st == some []) 7).toArray.size by rw [List.size_toArray, List.size_toArray]; exact (toldZ_39 0 0 Z32 Z32_len (str []) false 0 0 false).trans (toldZ_39 _ _ _ Z32_len _ _ _ _ _).symm)
  have HLT := Lib.hid hlt
  have HN1 := Lib.hid hn1
  have HN2 := Lib.hid hn2
  have HSET := Lib.hid hset
  have HQ3 := Lib.hid hq3
  have HX0 := Lib.hid h
  obtain ⟨st1, hst1⟩ : ∃ st1, st1 = textN x.n st := ⟨_, rfl⟩
  rw [← hst1] at HR HSZ HON HEQ ⊢
  clear h hx hk hk' hq3 hA hlt hn1 hn2 hset hfs hst1
  go_enter Tryz.func15, Tryz.ntmps15
  go_wp2_with (first
    | (have _t := HC5; refine wpList_load_row rfl 49 (.tmp 5) rfl (w.heap.size + 1 + 1) rfl 49 _ (0, 0) (.struct fs) HC5.out HFS.out rfl HSZ.out ?_)
    | (have _t := HC5; refine wpList_store_row rfl 49 (.tmp 4) (.tmp 74) rfl (w.heap.size + 1) (toldK x st (leftV (st1)) (errX m (st1)) (st1 == some []) 7).toArray rfl rfl 49 _ HB4.out HSZ.out HEQ.out HON.out ?_)
    | (go_at_call 24; refine (HP.out _).mono ?_; rintro e w1 ⟨rfl, rfl⟩; rw [HK.out])
    | (go_at_call 58; refine HR.out.mono ?_; rintro e w1 ⟨rfl, hr1, hg1⟩; (have hC1 := hg1.blk HC.out HN2.out); (have hB1 := hg1.blk HB.out HN1.out); (have cc : w1.cell? ⟨w.heap.size + 1 + 1, 34, none⟩ = some (.string (str [])) := hC1.cell 34); (have ff : w1.frozen? ⟨w.heap.size + 1 + 1, 34, none⟩ = false := hC1.frozen 34); (have HL := Lib.hid (rLeft_x p m st1 (w1.setCell ⟨(w.heap.size + 1 + 1), 34, none⟩ (.string (textV x.n st))) (hr1.keep (HSET.out w1 34 (.string (textV x.n st))) (keep_set (.string (textV x.n st)) hC1 rfl (fun _ e => by cases e))))); (have HB1 := Lib.hid hB1); (have HC1 := Lib.hid hC1); (have HG1 := Lib.hid hg1); clear hr1 hC1 hB1 hg1)
    | (go_at_call 61; refine HL.out.mono ?_; rintro e w2 ⟨rfl, hr2, hg2⟩; rw [leftN_id] at hr2; (have hC2 := hg2.blk (HC1.out.set 34 (.string (textV x.n st))) HN2.out); (have hB2 := hg2.blk (HB1.out.far (p := ⟨(w.heap.size + 1 + 1), 34, none⟩) (by show (w.heap.size + 1) ≠ (w.heap.size + 1 + 1); omega) (.string (textV x.n st))) HN1.out); (have c36 : w2.cell? ⟨w.heap.size + 1 + 1, 36, none⟩ = some (.int .i64 0) := hC2.cell 36); (have c37 : w2.cell? ⟨w.heap.size + 1 + 1, 37, none⟩ = some (.int .i64 0) := hC2.cell 37); (have c38 : w2.cell? ⟨w.heap.size + 1 + 1, 38, none⟩ = some (.bool false) := hC2.cell 38); (have f36 : w2.frozen? ⟨w.heap.size + 1 + 1, 36, none⟩ = false := hC2.frozen 36); (have f37 : w2.frozen? ⟨w.heap.size + 1 + 1, 37, none⟩ = false := hC2.frozen 37); (have f38 : w2.frozen? ⟨w.heap.size + 1 + 1, 38, none⟩ = false := hC2.frozen 38); (have hx3 := hr2.keep (HSET.out w2 36 (.int .i64 (leftV st1 : Nat))) (keep_set (.int .i64 (leftV st1 : Nat)) hC2 (old := .int .i64 0) rfl (fun _ e => by cases e))); (have hC3 := hC2.set 36 (.int .i64 (leftV st1 : Nat))); (have hx4 := hx3.keep (HSET.out _ 37 (.int .i64 (errX m st1))) (keep_set (.int .i64 (errX m st1)) hC3 (old := .int .i64 0) rfl (fun _ e => by cases e))); (have hC3b := hC3.set 37 (.int .i64 (errX m st1))); (have hx5 := hx4.keep (HSET.out _ 38 (.bool (st1 == some []))) (keep_set (.bool (st1 == some [])) hC3b (old := .bool false) rfl (fun _ e => by cases e))); (have HE := Lib.hid (rErr_x p m st1 _ hx3)); (have HEN := Lib.hid (rEnd_x p m st1 _ hx4)); (have HC4 : Hid (Blk (((w2.setCell ⟨(w.heap.size + 1 + 1), 36, none⟩ (.int .i64 (leftV st1 : Nat))).setCell ⟨(w.heap.size + 1 + 1), 37, none⟩ (.int .i64 (errX m st1))).setCell ⟨(w.heap.size + 1 + 1), 38, none⟩ (.bool (st1 == some []))) (w.heap.size + 1 + 1) 49 (toldK x st (leftV (st1)) (errX m (st1)) (st1 == some []) 7)) := Lib.hid (hC3b.set 38 (.bool (st1 == some [])))); (have HB4 := Lib.hid (((hB2.far (p := ⟨(w.heap.size + 1 + 1), 36, none⟩) (by show (w.heap.size + 1) ≠ (w.heap.size + 1 + 1); omega) (.int .i64 (leftV st1 : Nat))).far (p := ⟨(w.heap.size + 1 + 1), 37, none⟩) (by show (w.heap.size + 1) ≠ (w.heap.size + 1 + 1); omega) (.int .i64 (errX m st1))).far (p := ⟨(w.heap.size + 1 + 1), 38, none⟩) (by show (w.heap.size + 1) ≠ (w.heap.size + 1 + 1); omega) (.bool (st1 == some [])))); (have HX5 := Lib.hid hx5); (have HG2 := Lib.hid hg2); clear hr2 hg2 hC2 hB2 hx3 hC3 hx4 hC3b hx5)
    | (go_at_call 62; refine HE.out.mono ?_; rintro e w3 ⟨rfl, rfl⟩)
    | (go_at_call 63; refine HEN.out.mono ?_; rintro e w4 ⟨rfl, rfl⟩; have HC5 := HC4))
  have hg := ((((((Gs.of_qt HQ3.out : Gs m.S w _).tr HG1.out).setN (g := (w.heap.size + 1 + 1)) (i := 34) (by omega) (.string (textV x.n st))).tr HG2.out).setN (g := (w.heap.size + 1 + 1)) (i := 36) (by omega) (.int .i64 (leftV st1 : Nat))).setN (g := (w.heap.size + 1 + 1)) (i := 37) (by omega) (.int .i64 (errX m st1))).setN (g := (w.heap.size + 1 + 1)) (i := 38) (by omega) (.bool (st1 == some []))
  refine bodyPost_ret (v := .agg (toldK x st (leftV (st1)) (errX m (st1)) (st1 == some []) 7).toArray) (results_cell_row rfl _ _ (w.heap.size + 1) 49 _ (0, 0) (.struct fs) rfl (blk_setRow HB4.out (toldK x st (leftV (st1)) (errX m (st1)) (st1 == some []) 7)) HFS.out rfl HSZ.out) rfl ⟨rfl, ?_, hg.rowN (by omega) _⟩
  exact HX5.out.keep (fun k hk => setRow_other _ _ _ _ (by have := HLT.out _ hk; omega)) (keep_row HB4.out (told_keep _ _ _ _ _ _ _ _ _ _ _ _ _ _ _))
set_option maxRecDepth 100000 in
set_option maxHeartbeats 1000000 in
theorem wants_8 (p : Value) (m : RM) (x : PutD) (bv : Value) (st : Option (List Nat)) (w : World) (h : RfX w p m st) (hx : x.Ok) (hk : x.what % 10 = 8) :
    Calls Tryz.prog 15 #[p, .agg (putC x bv).toArray] w fun e w' => e = .returned (.agg (toldK x st (leftV (flagN st)) (errX m (flagN st)) (flagN st == some []) 8).toArray) ∧ RfX w' p m (flagN st) ∧ Gs m.S w w' := by
  have hq3 : Qt w (((w.alloc (.cells (putC x bv).toArray 28)).alloc (.cells toldZ.toArray 49)).alloc (.cells toldZ.toArray 49)) := (((Qt.refl w).alloc _).alloc _).alloc _
  have hA : ∀ o o', Blk (((w.alloc (.cells (putC x bv).toArray 28)).alloc o).alloc o') w.heap.size 28 (putC x bv) := fun o o' => ((show Blk (w.alloc (.cells (putC x bv).toArray 28)) w.heap.size 28 (putC x bv) from heap_alloc_new w _).alloc o).alloc o'
  have c0 : ∀ o o', (((w.alloc (.cells (putC x bv).toArray 28)).alloc o).alloc o').cell? ⟨w.heap.size, 0, none⟩ = some (.int .i64 x.what) := fun o o' => (hA o o').cell 0
  have c1 : ∀ o o', (((w.alloc (.cells (putC x bv).toArray 28)).alloc o).alloc o').cell? ⟨w.heap.size, 1, none⟩ = some (.int .i64 x.n) := fun o o' => (hA o o').cell 1
  have HB := Lib.hid ((alloc2_blk (w := w) (o := (.cells (putC x bv).toArray 28)) (t := 49) (c := toldZ)).alloc (.cells toldZ.toArray 49))
  have HC := Lib.hid (alloc3_blk (w := w) (o := (.cells (putC x bv).toArray 28)) (o' := (.cells toldZ.toArray 49)) (t := 49) (c := toldZ))
  have hlt := h.lt
  have hn1 : ¬m.S (w.heap.size + 1) := fun e => by have := hlt _ e; omega
  have hn2 : ¬m.S (w.heap.size + 1 + 1) := fun e => by have := hlt _ e; omega
  have hset : ∀ (W : World) i v k, m.S k → (W.setCell ⟨(w.heap.size + 1 + 1), i, none⟩ v).heap[k]? = W.heap[k]? := fun W i v k hk => Below.heap_setCell _ _ _ _ (by have := hlt _ hk; show k ≠ (w.heap.size + 1 + 1); omega)
  have HP := Lib.hid (fun w => pick_any x.what 10 w hx.w0 hx.w1 (by omega) (by omega))
  have hk' : Value.int .i64 (x.what % 10) = .int .i64 8 := by rw [hk]
  have HK := Lib.hid hk'
  obtain ⟨fs, hfs⟩ : ∃ fs, Tryz.prog.underlying 49 = some (.struct fs) := und_struct (by kernel_rfl)
  have HFS := Lib.hid hfs
  have HR := Lib.hid (rFlag_x p m st (((w.alloc (.cells (putC x bv).toArray 28)).alloc (.cells toldZ.toArray 49)).alloc (.cells toldZ.toArray 49)) (h.qt hq3))
  have HSZ := Lib.hid (show ((Tryz.prog).info? 49).map (·.size) = some (toldK x st (leftV (flagN st)) (errX m (flagN st)) (flagN st == some []) 8).toArray.size from told_size _ _ _ Z32_len _ _ _ _ _)
  have HON := Lib.hid (show (toldK x st (leftV (flagN st)) (errX m (flagN st)) (flagN st == some []) 8).toArray.all (·.oneCell') = true from told_one _ _ _ _ _ _ _ _)
  have HEQ := Lib.hid (show (toldZ.toArray).size = (toldK x st (leftV (flagN st)) (errX m (flagN st)) (flagN st == some []) 8).toArray.size by rw [List.size_toArray, List.size_toArray]; exact (toldZ_39 0 0 Z32 Z32_len (str []) false 0 0 false).trans (toldZ_39 _ _ _ Z32_len _ _ _ _ _).symm)
  have HLT := Lib.hid hlt
  have HN1 := Lib.hid hn1
  have HN2 := Lib.hid hn2
  have HSET := Lib.hid hset
  have HQ3 := Lib.hid hq3
  have HX0 := Lib.hid h
  obtain ⟨st1, hst1⟩ : ∃ st1, st1 = flagN st := ⟨_, rfl⟩
  rw [← hst1] at HR HSZ HON HEQ ⊢
  clear h hx hk hk' hq3 hA hlt hn1 hn2 hset hfs hst1
  go_enter Tryz.func15, Tryz.ntmps15
  go_wp2_with (first
    | (have _t := HC5; refine wpList_load_row rfl 49 (.tmp 5) rfl (w.heap.size + 1 + 1) rfl 49 _ (0, 0) (.struct fs) HC5.out HFS.out rfl HSZ.out ?_)
    | (have _t := HC5; refine wpList_store_row rfl 49 (.tmp 4) (.tmp 74) rfl (w.heap.size + 1) (toldK x st (leftV (st1)) (errX m (st1)) (st1 == some []) 8).toArray rfl rfl 49 _ HB4.out HSZ.out HEQ.out HON.out ?_)
    | (go_at_call 24; refine (HP.out _).mono ?_; rintro e w1 ⟨rfl, rfl⟩; rw [HK.out])
    | (go_at_call 59; refine HR.out.mono ?_; rintro e w1 ⟨rfl, hr1, hg1⟩; (have hC1 := hg1.blk HC.out HN2.out); (have hB1 := hg1.blk HB.out HN1.out); (have cc : w1.cell? ⟨w.heap.size + 1 + 1, 35, none⟩ = some (.bool false) := hC1.cell 35); (have ff : w1.frozen? ⟨w.heap.size + 1 + 1, 35, none⟩ = false := hC1.frozen 35); (have HL := Lib.hid (rLeft_x p m st1 (w1.setCell ⟨(w.heap.size + 1 + 1), 35, none⟩ (.bool (flagV st))) (hr1.keep (HSET.out w1 35 (.bool (flagV st))) (keep_set (.bool (flagV st)) hC1 rfl (fun _ e => by cases e))))); (have HB1 := Lib.hid hB1); (have HC1 := Lib.hid hC1); (have HG1 := Lib.hid hg1); clear hr1 hC1 hB1 hg1)
    | (go_at_call 61; refine HL.out.mono ?_; rintro e w2 ⟨rfl, hr2, hg2⟩; rw [leftN_id] at hr2; (have hC2 := hg2.blk (HC1.out.set 35 (.bool (flagV st))) HN2.out); (have hB2 := hg2.blk (HB1.out.far (p := ⟨(w.heap.size + 1 + 1), 35, none⟩) (by show (w.heap.size + 1) ≠ (w.heap.size + 1 + 1); omega) (.bool (flagV st))) HN1.out); (have c36 : w2.cell? ⟨w.heap.size + 1 + 1, 36, none⟩ = some (.int .i64 0) := hC2.cell 36); (have c37 : w2.cell? ⟨w.heap.size + 1 + 1, 37, none⟩ = some (.int .i64 0) := hC2.cell 37); (have c38 : w2.cell? ⟨w.heap.size + 1 + 1, 38, none⟩ = some (.bool false) := hC2.cell 38); (have f36 : w2.frozen? ⟨w.heap.size + 1 + 1, 36, none⟩ = false := hC2.frozen 36); (have f37 : w2.frozen? ⟨w.heap.size + 1 + 1, 37, none⟩ = false := hC2.frozen 37); (have f38 : w2.frozen? ⟨w.heap.size + 1 + 1, 38, none⟩ = false := hC2.frozen 38); (have hx3 := hr2.keep (HSET.out w2 36 (.int .i64 (leftV st1 : Nat))) (keep_set (.int .i64 (leftV st1 : Nat)) hC2 (old := .int .i64 0) rfl (fun _ e => by cases e))); (have hC3 := hC2.set 36 (.int .i64 (leftV st1 : Nat))); (have hx4 := hx3.keep (HSET.out _ 37 (.int .i64 (errX m st1))) (keep_set (.int .i64 (errX m st1)) hC3 (old := .int .i64 0) rfl (fun _ e => by cases e))); (have hC3b := hC3.set 37 (.int .i64 (errX m st1))); (have hx5 := hx4.keep (HSET.out _ 38 (.bool (st1 == some []))) (keep_set (.bool (st1 == some [])) hC3b (old := .bool false) rfl (fun _ e => by cases e))); (have HE := Lib.hid (rErr_x p m st1 _ hx3)); (have HEN := Lib.hid (rEnd_x p m st1 _ hx4)); (have HC4 : Hid (Blk (((w2.setCell ⟨(w.heap.size + 1 + 1), 36, none⟩ (.int .i64 (leftV st1 : Nat))).setCell ⟨(w.heap.size + 1 + 1), 37, none⟩ (.int .i64 (errX m st1))).setCell ⟨(w.heap.size + 1 + 1), 38, none⟩ (.bool (st1 == some []))) (w.heap.size + 1 + 1) 49 (toldK x st (leftV (st1)) (errX m (st1)) (st1 == some []) 8)) := Lib.hid (hC3b.set 38 (.bool (st1 == some [])))); (have HB4 := Lib.hid (((hB2.far (p := ⟨(w.heap.size + 1 + 1), 36, none⟩) (by show (w.heap.size + 1) ≠ (w.heap.size + 1 + 1); omega) (.int .i64 (leftV st1 : Nat))).far (p := ⟨(w.heap.size + 1 + 1), 37, none⟩) (by show (w.heap.size + 1) ≠ (w.heap.size + 1 + 1); omega) (.int .i64 (errX m st1))).far (p := ⟨(w.heap.size + 1 + 1), 38, none⟩) (by show (w.heap.size + 1) ≠ (w.heap.size + 1 + 1); omega) (.bool (st1 == some [])))); (have HX5 := Lib.hid hx5); (have HG2 := Lib.hid hg2); clear hr2 hg2 hC2 hB2 hx3 hC3 hx4 hC3b hx5)
    | (go_at_call 62; refine HE.out.mono ?_; rintro e w3 ⟨rfl, rfl⟩)
    | (go_at_call 63; refine HEN.out.mono ?_; rintro e w4 ⟨rfl, rfl⟩; have HC5 := HC4))
  have hg := ((((((Gs.of_qt HQ3.out : Gs m.S w _).tr HG1.out).setN (g := (w.heap.size + 1 + 1)) (i := 35) (by omega) (.bool (flagV st))).tr HG2.out).setN (g := (w.heap.size + 1 + 1)) (i := 36) (by omega) (.int .i64 (leftV st1 : Nat))).setN (g := (w.heap.size + 1 + 1)) (i := 37) (by omega) (.int .i64 (errX m st1))).setN (g := (w.heap.size + 1 + 1)) (i := 38) (by omega) (.bool (st1 == some []))
  refine bodyPost_ret (v := .agg (toldK x st (leftV (st1)) (errX m (st1)) (st1 == some []) 8).toArray) (results_cell_row rfl _ _ (w.heap.size + 1) 49 _ (0, 0) (.struct fs) rfl (blk_setRow HB4.out (toldK x st (leftV (st1)) (errX m (st1)) (st1 == some []) 8)) HFS.out rfl HSZ.out) rfl ⟨rfl, ?_, hg.rowN (by omega) _⟩
  exact HX5.out.keep (fun k hk => setRow_other _ _ _ _ (by have := HLT.out _ hk; omega)) (keep_row HB4.out (told_keep _ _ _ _ _ _ _ _ _ _ _ _ _ _ _))
set_option maxRecDepth 100000 in
set_option maxHeartbeats 1000000 in
theorem wants_9 (p : Value) (m : RM) (x : PutD) (bv : Value) (st : Option (List Nat)) (w : World) (h : RfX w p m st) (hx : x.Ok) (hk : x.what % 10 = 9) :
    Calls Tryz.prog 15 #[p, .agg (putC x bv).toArray] w fun e w' => e = .returned (.agg (toldK x st (leftV (cntN x.n st)) (errX m (cntN x.n st)) (cntN x.n st == some []) 9).toArray) ∧ RfX w' p m (cntN x.n st) ∧ Gs m.S w w' := by
  have hq3 : Qt w (((w.alloc (.cells (putC x bv).toArray 28)).alloc (.cells toldZ.toArray 49)).alloc (.cells toldZ.toArray 49)) := (((Qt.refl w).alloc _).alloc _).alloc _
  have hA : ∀ o o', Blk (((w.alloc (.cells (putC x bv).toArray 28)).alloc o).alloc o') w.heap.size 28 (putC x bv) := fun o o' => ((show Blk (w.alloc (.cells (putC x bv).toArray 28)) w.heap.size 28 (putC x bv) from heap_alloc_new w _).alloc o).alloc o'
  have c0 : ∀ o o', (((w.alloc (.cells (putC x bv).toArray 28)).alloc o).alloc o').cell? ⟨w.heap.size, 0, none⟩ = some (.int .i64 x.what) := fun o o' => (hA o o').cell 0
  have c1 : ∀ o o', (((w.alloc (.cells (putC x bv).toArray 28)).alloc o).alloc o').cell? ⟨w.heap.size, 1, none⟩ = some (.int .i64 x.n) := fun o o' => (hA o o').cell 1
  have HB := Lib.hid ((alloc2_blk (w := w) (o := (.cells (putC x bv).toArray 28)) (t := 49) (c := toldZ)).alloc (.cells toldZ.toArray 49))
  have HC := Lib.hid (alloc3_blk (w := w) (o := (.cells (putC x bv).toArray 28)) (o' := (.cells toldZ.toArray 49)) (t := 49) (c := toldZ))
  have hlt := h.lt
  have hn1 : ¬m.S (w.heap.size + 1) := fun e => by have := hlt _ e; omega
  have hn2 : ¬m.S (w.heap.size + 1 + 1) := fun e => by have := hlt _ e; omega
  have hset : ∀ (W : World) i v k, m.S k → (W.setCell ⟨(w.heap.size + 1 + 1), i, none⟩ v).heap[k]? = W.heap[k]? := fun W i v k hk => Below.heap_setCell _ _ _ _ (by have := hlt _ hk; show k ≠ (w.heap.size + 1 + 1); omega)
  have HP := Lib.hid (fun w => pick_any x.what 10 w hx.w0 hx.w1 (by omega) (by omega))
  have hk' : Value.int .i64 (x.what % 10) = .int .i64 9 := by rw [hk]
  have HK := Lib.hid hk'
  obtain ⟨fs, hfs⟩ : ∃ fs, Tryz.prog.underlying 49 = some (.struct fs) := und_struct (by kernel_rfl)
  have HFS := Lib.hid hfs
  have HR := Lib.hid (rCount_x p m x.n st (((w.alloc (.cells (putC x bv).toArray 28)).alloc (.cells toldZ.toArray 49)).alloc (.cells toldZ.toArray 49)) (h.qt hq3))
  have HSZ := Lib.hid (show ((Tryz.prog).info? 49).map (·.size) = some (toldK x st (leftV (cntN x.n st)) (errX m (cntN x.n st)) (cntN x.n st == some []) 9).toArray.size from told_size _ _ _ Z32_len _ _ _ _ _)
  have HON := Lib.hid (show (toldK x st (leftV (cntN x.n st)) (errX m (cntN x.n st)) (cntN x.n st == some []) 9).toArray.all (·.oneCell') = true from told_one _ _ _ _ _ _ _ _)
  have HEQ := Lib.hid (show (toldZ.toArray).size = (toldK x st (leftV (cntN x.n st)) (errX m (cntN x.n st)) (cntN x.n st == some []) 9).toArray.size by rw [List.size_toArray, List.size_toArray]; exact (toldZ_39 0 0 Z32 Z32_len (str []) false 0 0 false).trans (toldZ_39 _ _ _ Z32_len _ _ _ _ _).symm)
  have HLT := Lib.hid hlt
  have HN1 := Lib.hid hn1
  have HN2 := Lib.hid hn2
  have HSET := Lib.hid hset
  have HQ3 := Lib.hid hq3
  have HX0 := Lib.hid h
  obtain ⟨st1, hst1⟩ : ∃ st1, st1 = cntN x.n st := ⟨_, rfl⟩
  rw [← hst1] at HR HSZ HON HEQ ⊢
  clear h hx hk hk' hq3 hA hlt hn1 hn2 hset hfs hst1
  go_enter Tryz.func15, Tryz.ntmps15
  go_wp2_with (first
    | (have _t := HC5; refine wpList_load_row rfl 49 (.tmp 5) rfl (w.heap.size + 1 + 1) rfl 49 _ (0, 0) (.struct fs) HC5.out HFS.out rfl HSZ.out ?_)
    | (have _t := HC5; refine wpList_store_row rfl 49 (.tmp 4) (.tmp 74) rfl (w.heap.size + 1) (toldK x st (leftV (st1)) (errX m (st1)) (st1 == some []) 9).toArray rfl rfl 49 _ HB4.out HSZ.out HEQ.out HON.out ?_)
    | (go_at_call 24; refine (HP.out _).mono ?_; rintro e w1 ⟨rfl, rfl⟩; rw [HK.out])
    | (go_at_call 60; refine HR.out.mono ?_; rintro e w1 ⟨rfl, hr1, hg1⟩; (have hC1 := hg1.blk HC.out HN2.out); (have hB1 := hg1.blk HB.out HN1.out); (have cc : w1.cell? ⟨w.heap.size + 1 + 1, 0, none⟩ = some (.int .i64 0) := hC1.cell 0); (have ff : w1.frozen? ⟨w.heap.size + 1 + 1, 0, none⟩ = false := hC1.frozen 0); (have HL := Lib.hid (rLeft_x p m st1 (w1.setCell ⟨(w.heap.size + 1 + 1), 0, none⟩ (.int .i64 (cntV x.n st : Nat))) (hr1.keep (HSET.out w1 0 (.int .i64 (cntV x.n st : Nat))) (keep_set (.int .i64 (cntV x.n st : Nat)) hC1 rfl (fun _ e => by cases e))))); (have HB1 := Lib.hid hB1); (have HC1 := Lib.hid hC1); (have HG1 := Lib.hid hg1); clear hr1 hC1 hB1 hg1)
    | (go_at_call 61; refine HL.out.mono ?_; rintro e w2 ⟨rfl, hr2, hg2⟩; rw [leftN_id] at hr2; (have hC2 := hg2.blk (HC1.out.set 0 (.int .i64 (cntV x.n st : Nat))) HN2.out); (have hB2 := hg2.blk (HB1.out.far (p := ⟨(w.heap.size + 1 + 1), 0, none⟩) (by show (w.heap.size + 1) ≠ (w.heap.size + 1 + 1); omega) (.int .i64 (cntV x.n st : Nat))) HN1.out); (have c36 : w2.cell? ⟨w.heap.size + 1 + 1, 36, none⟩ = some (.int .i64 0) := hC2.cell 36); (have c37 : w2.cell? ⟨w.heap.size + 1 + 1, 37, none⟩ = some (.int .i64 0) := hC2.cell 37); (have c38 : w2.cell? ⟨w.heap.size + 1 + 1, 38, none⟩ = some (.bool false) := hC2.cell 38); (have f36 : w2.frozen? ⟨w.heap.size + 1 + 1, 36, none⟩ = false := hC2.frozen 36); (have f37 : w2.frozen? ⟨w.heap.size + 1 + 1, 37, none⟩ = false := hC2.frozen 37); (have f38 : w2.frozen? ⟨w.heap.size + 1 + 1, 38, none⟩ = false := hC2.frozen 38); (have hx3 := hr2.keep (HSET.out w2 36 (.int .i64 (leftV st1 : Nat))) (keep_set (.int .i64 (leftV st1 : Nat)) hC2 (old := .int .i64 0) rfl (fun _ e => by cases e))); (have hC3 := hC2.set 36 (.int .i64 (leftV st1 : Nat))); (have hx4 := hx3.keep (HSET.out _ 37 (.int .i64 (errX m st1))) (keep_set (.int .i64 (errX m st1)) hC3 (old := .int .i64 0) rfl (fun _ e => by cases e))); (have hC3b := hC3.set 37 (.int .i64 (errX m st1))); (have hx5 := hx4.keep (HSET.out _ 38 (.bool (st1 == some []))) (keep_set (.bool (st1 == some [])) hC3b (old := .bool false) rfl (fun _ e => by cases e))); (have HE := Lib.hid (rErr_x p m st1 _ hx3)); (have HEN := Lib.hid (rEnd_x p m st1 _ hx4)); (have HC4 : Hid (Blk (((w2.setCell ⟨(w.heap.size + 1 + 1), 36, none⟩ (.int .i64 (leftV st1 : Nat))).setCell ⟨(w.heap.size + 1 + 1), 37, none⟩ (.int .i64 (errX m st1))).setCell ⟨(w.heap.size + 1 + 1), 38, none⟩ (.bool (st1 == some []))) (w.heap.size + 1 + 1) 49 (toldK x st (leftV (st1)) (errX m (st1)) (st1 == some []) 9)) := Lib.hid (hC3b.set 38 (.bool (st1 == some [])))); (have HB4 := Lib.hid (((hB2.far (p := ⟨(w.heap.size + 1 + 1), 36, none⟩) (by show (w.heap.size + 1) ≠ (w.heap.size + 1 + 1); omega) (.int .i64 (leftV st1 : Nat))).far (p := ⟨(w.heap.size + 1 + 1), 37, none⟩) (by show (w.heap.size + 1) ≠ (w.heap.size + 1 + 1); omega) (.int .i64 (errX m st1))).far (p := ⟨(w.heap.size + 1 + 1), 38, none⟩) (by show (w.heap.size + 1) ≠ (w.heap.size + 1 + 1); omega) (.bool (st1 == some [])))); (have HX5 := Lib.hid hx5); (have HG2 := Lib.hid hg2); clear hr2 hg2 hC2 hB2 hx3 hC3 hx4 hC3b hx5)
    | (go_at_call 62; refine HE.out.mono ?_; rintro e w3 ⟨rfl, rfl⟩)
    | (go_at_call 63; refine HEN.out.mono ?_; rintro e w4 ⟨rfl, rfl⟩; have HC5 := HC4))
  have hg := ((((((Gs.of_qt HQ3.out : Gs m.S w _).tr HG1.out).setN (g := (w.heap.size + 1 + 1)) (i := 0) (by omega) (.int .i64 (cntV x.n st : Nat))).tr HG2.out).setN (g := (w.heap.size + 1 + 1)) (i := 36) (by omega) (.int .i64 (leftV st1 : Nat))).setN (g := (w.heap.size + 1 + 1)) (i := 37) (by omega) (.int .i64 (errX m st1))).setN (g := (w.heap.size + 1 + 1)) (i := 38) (by omega) (.bool (st1 == some []))
  refine bodyPost_ret (v := .agg (toldK x st (leftV (st1)) (errX m (st1)) (st1 == some []) 9).toArray) (results_cell_row rfl _ _ (w.heap.size + 1) 49 _ (0, 0) (.struct fs) rfl (blk_setRow HB4.out (toldK x st (leftV (st1)) (errX m (st1)) (st1 == some []) 9)) HFS.out rfl HSZ.out) rfl ⟨rfl, ?_, hg.rowN (by omega) _⟩
  exact HX5.out.keep (fun k hk => setRow_other _ _ _ _ (by have := HLT.out _ hk; omega)) (keep_row HB4.out (told_keep _ _ _ _ _ _ _ _ _ _ _ _ _ _ _))
end Go.Proofs.YtajkmblcphdnbaaGreat
