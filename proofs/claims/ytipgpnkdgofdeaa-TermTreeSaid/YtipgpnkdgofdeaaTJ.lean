import Derived.Test.YtipgpnkdgofdeaaTI
/-! The closures of kinds, printed by genkinds.py. -/
namespace Go.Proofs.Ytipgpnkdgofdeaa.Tm
open Go.RowKit Go.Proofs.Ytipgpnkdgofdeaa.Fl
set_option linter.unusedVariables false
set_option linter.unusedSimpArgs false

set_option maxRecDepth 100000 in
set_option maxHeartbeats 1000000 in
theorem kind1_any (n : Nd) (ks : List Tr) (cs : List Value) (ok : Nat → Prop) (w : World) (hm : (Tr.mk n ks).flat.length ≤ 1000000) (hbr : Br w ok cs (.mk n ks)) :
    Calls Try.prog 75 #[.agg cs.toArray] w fun e w' => e = .returned (.tuple #[.agg #[.int .i64 0, .int .u64 n.f2, .string n.f3], .bool (decide (ks.length = 0))]) ∧ Qt w w' := by
  obtain ⟨A, c, avA, avc, cf, hcs, h7, h1, h5, hc, hK, _⟩ := hbr.parts
  obtain ⟨rs, hrs⟩ : ∃ fs, Try.prog.underlying 96 = some (.struct fs) := ⟨_, Try.underlying96⟩
  obtain ⟨av, hav⟩ : ∃ av : Value, av = .slice avA (Tr.mk n ks).flat.length avc := ⟨_, rfl⟩
  rw [← hav] at hcs
  have hkn : ks.length ≤ 1000000 := by have e1 : (Tr.mk n ks).flat.length = (flats ks).length + 1 := by simp [Tr.flat]
                                       have := flats_len ks
                                       omega
  obtain ⟨B, hB⟩ : ∃ B, B = w.heap.size := ⟨_, rfl⟩
  have HRS := Lib.hid hrs
  have HCS := Lib.hid hcs
  have HBR := Lib.hid hbr
  have HM := Lib.hid hm
  clear hK hrs hcs hav h5 hbr hm
  by_cases h0 : ks.length = 0
  · have g0 : ((ks.length : Int) == 0) = true := by rw [beq_iff_eq]; omega
    rw [show (decide (ks.length = 0)) = true from decide_eq_true h0]
    clear h0
    go_enter Try.func75, Try.ntmps75
    go_wp2
    have hb0 : Blk ((w.alloc (.cells cs.toArray 60)).alloc (.cells #[.int .i64 0, .int .u64 0, .string ⟨#[]⟩] 96)) w.heap.size 60 cs := (show Blk (w.alloc (.cells cs.toArray 60)) _ _ cs from heap_alloc_new w _).alloc _
    have hg0 : Blk ((w.alloc (.cells cs.toArray 60)).alloc (.cells #[.int .i64 0, .int .u64 0, .string ⟨#[]⟩] 96)) (w.heap.size + 1) 96 [.int .i64 0, .int .u64 0, .string ⟨#[]⟩] := by
      have h := heap_alloc_new (w.alloc (.cells cs.toArray 60)) (.cells #[.int .i64 0, .int .u64 0, .string ⟨#[]⟩] 96)
      rw [show (w.alloc (.cells cs.toArray 60)).heap.size = w.heap.size + 1 from by simp] at h
      exact h
    have hq0 : Qt w ((w.alloc (.cells cs.toArray 60)).alloc (.cells #[.int .i64 0, .int .u64 0, .string ⟨#[]⟩] 96)) := ((Qt.refl w).alloc _).alloc _
    generalize ((w.alloc (.cells cs.toArray 60)).alloc (.cells #[.int .i64 0, .int .u64 0, .string ⟨#[]⟩] 96)) = w1 at hb0 hg0 hq0 ⊢
    rw [← hB] at hb0 hg0 ⊢
    obtain ⟨G, hG⟩ : ∃ G, G = B + 1 := ⟨_, rfl⟩
    rw [← hG] at hg0 ⊢
    have hBG : B < G := by omega
    have hBw : w.heap.size ≤ B := by omega
    have HQ0 := Lib.hid hq0
    have HGG := hg0
    have HRG := Lib.hid (show w1.rangeAt B 0 (ndc n ++ [.slice A ks.length c, av]) from hb0.range 0 _ (by rw [HCS.out]; rfl))
    have HBW := Lib.hid hBw
    have HBB := Lib.hid hBG
    clear hb0 hq0 hB hG hg0
    refine wp_region_held (S := (fun u => u.rangeAt B 0 (ndc n ++ [.slice A ks.length c, av]))) (by kernel_rfl) ?_
    change wpAnyH _ _ _ _ _ _ _ _ (World.drew _)
    refine genT fun F0 hA => ?_
    have z0 : F0.tmps.size = 15 := by rw [hA]; rfl
    have e1_0 : F0.eval (.tmp 1) = .pointer (some ⟨B, 0, none⟩) := by rw [hA]; rfl
    have e2_0 : F0.eval (.tmp 2) = .pointer (some ⟨G, 0, none⟩) := by rw [hA]; rfl
    have HA := Lib.hid hA
    clear hA
    have HS := Lib.hid (show World.rangeAt (World.drew _) _ _ _ from HRG.out)
    refine tkT (i := 0) (oi := _) (v := .pointer (some ⟨B, 0, none⟩)) rfl (by kernel_rfl) (by kernel_rfl) (by kernel_rfl) (fun _ _ _ h => h) HS.out (wantedT rfl) (fun w _ => faT rfl e1_0 (by go_simp)) ?_
    intro F1 hF
    replace hF : F1 = F0.put (some 4) (.pointer (some ⟨B, 0, none⟩)) := hF
    have z1 : F1.tmps.size = 15 := by rw [hF]; simpa [Act.put] using z0
    have e1_1 := (show F1.eval (.tmp 1) = F0.eval (.tmp 1) by rw [hF]; exact evO (by decide)).trans e1_0
    have e2_1 := (show F1.eval (.tmp 2) = F0.eval (.tmp 2) by rw [hF]; exact evO (by decide)).trans e2_0
    have e4_1 : F1.eval (.tmp 4) = .pointer (some ⟨B, 0, none⟩) := by rw [hF]; exact evS (by rw [z0]; decide)
    have HF1 := Lib.hid hF
    clear hF e1_0 e2_0
    refine tkT (i := 1) (oi := _) (v := .pointer (some ⟨B, 2, none⟩)) rfl (by kernel_rfl) (by kernel_rfl) (by kernel_rfl) (fun _ _ _ h => h) HS.out (wantedT rfl) (fun w _ => faT rfl e4_1 (by go_simp)) ?_
    intro F2 hF
    replace hF : F2 = F1.put (some 5) (.pointer (some ⟨B, 2, none⟩)) := hF
    have z2 : F2.tmps.size = 15 := by rw [hF]; simpa [Act.put] using z1
    have e1_2 := (show F2.eval (.tmp 1) = F1.eval (.tmp 1) by rw [hF]; exact evO (by decide)).trans e1_1
    have e2_2 := (show F2.eval (.tmp 2) = F1.eval (.tmp 2) by rw [hF]; exact evO (by decide)).trans e2_1
    have e5_2 : F2.eval (.tmp 5) = .pointer (some ⟨B, 2, none⟩) := by rw [hF]; exact evS (by rw [z1]; decide)
    have HF2 := Lib.hid hF
    clear hF e1_1 e2_1 e4_1
    refine tkT (i := 2) (oi := _) (v := .int .u64 n.f2) rfl (by kernel_rfl) (by kernel_rfl) (by kernel_rfl) (fun _ _ _ h => h) HS.out (wantedT rfl) (fun w hs => by have c1 := hs 2 (.int .u64 n.f2) rfl; simp only [Nat.zero_add] at c1; exact ldT rfl e5_2 (by go_simp)) ?_
    intro F3 hF
    replace hF : F3 = F2.put (some 6) (.int .u64 n.f2) := hF
    have z3 : F3.tmps.size = 15 := by rw [hF]; simpa [Act.put] using z2
    have e1_3 := (show F3.eval (.tmp 1) = F2.eval (.tmp 1) by rw [hF]; exact evO (by decide)).trans e1_2
    have e2_3 := (show F3.eval (.tmp 2) = F2.eval (.tmp 2) by rw [hF]; exact evO (by decide)).trans e2_2
    have e6_3 : F3.eval (.tmp 6) = .int .u64 n.f2 := by rw [hF]; exact evS (by rw [z2]; decide)
    have HF3 := Lib.hid hF
    clear hF e1_2 e2_2 e5_2
    refine tkT (i := 3) (oi := _) (v := .pointer (some ⟨B, 0, none⟩)) rfl (by kernel_rfl) (by kernel_rfl) (by kernel_rfl) (fun _ _ _ h => h) HS.out (wantedT rfl) (fun w _ => faT rfl e1_3 (by go_simp)) ?_
    intro F4 hF
    replace hF : F4 = F3.put (some 7) (.pointer (some ⟨B, 0, none⟩)) := hF
    have z4 : F4.tmps.size = 15 := by rw [hF]; simpa [Act.put] using z3
    have e1_4 := (show F4.eval (.tmp 1) = F3.eval (.tmp 1) by rw [hF]; exact evO (by decide)).trans e1_3
    have e2_4 := (show F4.eval (.tmp 2) = F3.eval (.tmp 2) by rw [hF]; exact evO (by decide)).trans e2_3
    have e6_4 := (show F4.eval (.tmp 6) = F3.eval (.tmp 6) by rw [hF]; exact evO (by decide)).trans e6_3
    have e7_4 : F4.eval (.tmp 7) = .pointer (some ⟨B, 0, none⟩) := by rw [hF]; exact evS (by rw [z3]; decide)
    have HF4 := Lib.hid hF
    clear hF e1_3 e2_3 e6_3
    refine tkT (i := 4) (oi := _) (v := .pointer (some ⟨B, 3, none⟩)) rfl (by kernel_rfl) (by kernel_rfl) (by kernel_rfl) (fun _ _ _ h => h) HS.out (wantedT rfl) (fun w _ => faT rfl e7_4 (by go_simp)) ?_
    intro F5 hF
    replace hF : F5 = F4.put (some 8) (.pointer (some ⟨B, 3, none⟩)) := hF
    have z5 : F5.tmps.size = 15 := by rw [hF]; simpa [Act.put] using z4
    have e1_5 := (show F5.eval (.tmp 1) = F4.eval (.tmp 1) by rw [hF]; exact evO (by decide)).trans e1_4
    have e2_5 := (show F5.eval (.tmp 2) = F4.eval (.tmp 2) by rw [hF]; exact evO (by decide)).trans e2_4
    have e6_5 := (show F5.eval (.tmp 6) = F4.eval (.tmp 6) by rw [hF]; exact evO (by decide)).trans e6_4
    have e8_5 : F5.eval (.tmp 8) = .pointer (some ⟨B, 3, none⟩) := by rw [hF]; exact evS (by rw [z4]; decide)
    have HF5 := Lib.hid hF
    clear hF e1_4 e2_4 e6_4 e7_4
    refine tkT (i := 5) (oi := _) (v := .string n.f3) rfl (by kernel_rfl) (by kernel_rfl) (by kernel_rfl) (fun _ _ _ h => h) HS.out (wantedT rfl) (fun w hs => by have c1 := hs 3 (.string n.f3) rfl; simp only [Nat.zero_add] at c1; exact ldT rfl e8_5 (by go_simp)) ?_
    intro F6 hF
    replace hF : F6 = F5.put (some 9) (.string n.f3) := hF
    have z6 : F6.tmps.size = 15 := by rw [hF]; simpa [Act.put] using z5
    have e1_6 := (show F6.eval (.tmp 1) = F5.eval (.tmp 1) by rw [hF]; exact evO (by decide)).trans e1_5
    have e2_6 := (show F6.eval (.tmp 2) = F5.eval (.tmp 2) by rw [hF]; exact evO (by decide)).trans e2_5
    have e6_6 := (show F6.eval (.tmp 6) = F5.eval (.tmp 6) by rw [hF]; exact evO (by decide)).trans e6_5
    have e9_6 : F6.eval (.tmp 9) = .string n.f3 := by rw [hF]; exact evS (by rw [z5]; decide)
    have HF6 := Lib.hid hF
    clear hF e1_5 e2_5 e6_5 e8_5
    refine tkT (i := 6) (oi := _) (v := .agg #[.int .i64 0, .int .u64 n.f2, .string n.f3]) rfl (by kernel_rfl) (by kernel_rfl) (by kernel_rfl) (fun _ _ _ h => h) HS.out (wantedT rfl) (fun w hs => bdT rfl (vals := #[(0, .int .i64 0), (1, .int .u64 n.f2), (2, .string n.f3)]) (by simp only [List.map_toArray, List.map_cons, List.map_nil, e6_6, e9_6] <;> rfl) (by kernel_rfl) w) ?_
    intro F7 hF
    replace hF : F7 = F6.put (some 10) (.agg #[.int .i64 0, .int .u64 n.f2, .string n.f3]) := hF
    have z7 : F7.tmps.size = 15 := by rw [hF]; simpa [Act.put] using z6
    have e1_7 := (show F7.eval (.tmp 1) = F6.eval (.tmp 1) by rw [hF]; exact evO (by decide)).trans e1_6
    have e2_7 := (show F7.eval (.tmp 2) = F6.eval (.tmp 2) by rw [hF]; exact evO (by decide)).trans e2_6
    have e10_7 : F7.eval (.tmp 10) = .agg #[.int .i64 0, .int .u64 n.f2, .string n.f3] := by rw [hF]; exact evS (by rw [z6]; decide)
    have HF7 := Lib.hid hF
    clear hF e1_6 e2_6 e6_6 e9_6
    refine tkT (i := 7) (oi := _) (v := .pointer (some ⟨B, 5, none⟩)) rfl (by kernel_rfl) (by kernel_rfl) (by kernel_rfl) (fun _ _ _ h => h) HS.out (wantedT rfl) (fun w _ => faT rfl e1_7 (by go_simp)) ?_
    intro F8 hF
    replace hF : F8 = F7.put (some 11) (.pointer (some ⟨B, 5, none⟩)) := hF
    have z8 : F8.tmps.size = 15 := by rw [hF]; simpa [Act.put] using z7
    have e2_8 := (show F8.eval (.tmp 2) = F7.eval (.tmp 2) by rw [hF]; exact evO (by decide)).trans e2_7
    have e10_8 := (show F8.eval (.tmp 10) = F7.eval (.tmp 10) by rw [hF]; exact evO (by decide)).trans e10_7
    have e11_8 : F8.eval (.tmp 11) = .pointer (some ⟨B, 5, none⟩) := by rw [hF]; exact evS (by rw [z7]; decide)
    have HF8 := Lib.hid hF
    clear hF e1_7 e2_7 e10_7
    refine tkT (i := 8) (oi := _) (v := .slice A ks.length c) rfl (by kernel_rfl) (by kernel_rfl) (by kernel_rfl) (fun _ _ _ h => h) HS.out (wantedT rfl) (fun w hs => by have c1 := hs 5 (.slice A ks.length c) rfl; simp only [Nat.zero_add] at c1; exact ldT rfl e11_8 (by go_simp)) ?_
    intro F9 hF
    replace hF : F9 = F8.put (some 12) (.slice A ks.length c) := hF
    have z9 : F9.tmps.size = 15 := by rw [hF]; simpa [Act.put] using z8
    have e2_9 := (show F9.eval (.tmp 2) = F8.eval (.tmp 2) by rw [hF]; exact evO (by decide)).trans e2_8
    have e10_9 := (show F9.eval (.tmp 10) = F8.eval (.tmp 10) by rw [hF]; exact evO (by decide)).trans e10_8
    have e12_9 : F9.eval (.tmp 12) = .slice A ks.length c := by rw [hF]; exact evS (by rw [z8]; decide)
    have HF9 := Lib.hid hF
    clear hF e2_8 e10_8 e11_8
    refine tkT (i := 9) (oi := _) (v := .int .i64 (ks.length : Int)) rfl (by kernel_rfl) (by kernel_rfl) (by kernel_rfl) (fun _ _ _ h => h) HS.out (wantedT rfl) (fun w _ => lnT (e := 60) rfl e12_9 (by kernel_rfl) w) ?_
    intro F10 hF
    replace hF : F10 = F9.put (some 13) (.int .i64 (ks.length : Int)) := hF
    have z10 : F10.tmps.size = 15 := by rw [hF]; simpa [Act.put] using z9
    have e2_10 := (show F10.eval (.tmp 2) = F9.eval (.tmp 2) by rw [hF]; exact evO (by decide)).trans e2_9
    have e10_10 := (show F10.eval (.tmp 10) = F9.eval (.tmp 10) by rw [hF]; exact evO (by decide)).trans e10_9
    have e13_10 : F10.eval (.tmp 13) = .int .i64 (ks.length : Int) := by rw [hF]; exact evS (by rw [z9]; decide)
    have HF10 := Lib.hid hF
    clear hF e2_9 e10_9 e12_9
    refine tkT (i := 10) (oi := _) (v := .bool true) rfl (by kernel_rfl) (by kernel_rfl) (by kernel_rfl) (fun _ _ _ h => h) HS.out (wantedT rfl) (fun w hs => boT rfl e13_10 rfl (by go_simp) (by go_simp)) ?_
    intro F11 hF
    replace hF : F11 = F10.put (some 14) (.bool true) := hF
    have z11 : F11.tmps.size = 15 := by rw [hF]; simpa [Act.put] using z10
    have e2_11 := (show F11.eval (.tmp 2) = F10.eval (.tmp 2) by rw [hF]; exact evO (by decide)).trans e2_10
    have e10_11 := (show F11.eval (.tmp 10) = F10.eval (.tmp 10) by rw [hF]; exact evO (by decide)).trans e10_10
    have e14_11 : F11.eval (.tmp 14) = .bool true := by rw [hF]; exact evS (by rw [z10]; decide)
    have HF11 := Lib.hid hF
    clear hF e2_10 e10_10 e13_10
    refine aloneT (i := 11) (oi := _) rfl (by kernel_rfl) (wantedT rfl) ?_
    refine wpStM rfl e2_11 e10_11 (cells := [.int .i64 0, .int .u64 n.f2, .string n.f3]) (t := 96) (c := [.int .i64 0, .int .u64 0, .string ⟨#[]⟩]) HGG (by show 3 ≤ 3; decide) (by kernel_rfl) (by intro u hu; simp only [List.mem_cons, List.not_mem_nil, or_false] at hu; rcases hu with rfl | rfl | rfl <;> rfl) ?_
    intro w3 og3 hz3 hb3
    refine ⟨rangeOg HS.out og3 (by omega), genT fun F12 hF => ?_⟩
    have HS := Lib.hid (rangeOg HS.out og3 (by omega))
    replace hF : F12 = F11.put none (undef) := hF
    have z12 : F12.tmps.size = 15 := by rw [hF]; simpa [Act.put] using z11
    have e14_12 := (show F12.eval (.tmp 14) = F11.eval (.tmp 14) by rw [hF]; exact rfl).trans e14_11
    have HF12 := Lib.hid hF
    clear hF e2_11 e10_11 e14_11
    refine tkT (i := 12) (oi := _) (v := .bool true) rfl (by kernel_rfl) (by kernel_rfl) (by kernel_rfl) (fun _ _ _ h => h) HS.out (wantedT rfl) (fun w _ => asT rfl e14_12 w) ?_
    intro F13 hF
    replace hF : F13 = F12.put (some 3) (.bool true) := hF
    have z13 : F13.tmps.size = 15 := by rw [hF]; simpa [Act.put] using z12
    have HF13 := Lib.hid hF
    clear hF e14_12
    refine wpAnyH_done (by kernel_rfl) ?_ _
    rw [HF13.out, HF12.out, HF11.out, HF10.out, HF9.out, HF8.out, HF7.out, HF6.out, HF5.out, HF4.out, HF3.out, HF2.out, HF1.out, HA.out]
    simp only [Act.put, List.setIfInBounds_toArray, List.set_cons_succ, List.set_cons_zero]
    clear HF13 HF12 HF11 HF10 HF9 HF8 HF7 HF6 HF5 HF4 HF3 HF2 HF1 HA z13 z12 z11 z10 z9 z8 z7 z6 z5 z4 z3 z2 z1 z0 
    try go_wp2
    refine bodyPost_ret (v := .tuple #[.agg #[.int .i64 0, .int .u64 n.f2, .string n.f3], .bool (true)]) (results_ct (cs := [.int .i64 0, .int .u64 n.f2, .string n.f3]) rfl _ _ G (.struct rs) rfl (by first | exact hb3 | exact HB3.out) _ rfl HRS.out rfl (by kernel_rfl)) rfl ?_
    exact ⟨by first | rfl | simp_all, og3.qt HQ0.out.drew (by have := HBW.out; have := HBB.out; omega)⟩
  · have g0 : ((ks.length : Int) == 0) = false := by rw [beq_eq_false_iff_ne]; omega
    rw [show (decide (ks.length = 0)) = false from decide_eq_false h0]
    clear h0
    go_enter Try.func75, Try.ntmps75
    go_wp2
    have hb0 : Blk ((w.alloc (.cells cs.toArray 60)).alloc (.cells #[.int .i64 0, .int .u64 0, .string ⟨#[]⟩] 96)) w.heap.size 60 cs := (show Blk (w.alloc (.cells cs.toArray 60)) _ _ cs from heap_alloc_new w _).alloc _
    have hg0 : Blk ((w.alloc (.cells cs.toArray 60)).alloc (.cells #[.int .i64 0, .int .u64 0, .string ⟨#[]⟩] 96)) (w.heap.size + 1) 96 [.int .i64 0, .int .u64 0, .string ⟨#[]⟩] := by
      have h := heap_alloc_new (w.alloc (.cells cs.toArray 60)) (.cells #[.int .i64 0, .int .u64 0, .string ⟨#[]⟩] 96)
      rw [show (w.alloc (.cells cs.toArray 60)).heap.size = w.heap.size + 1 from by simp] at h
      exact h
    have hq0 : Qt w ((w.alloc (.cells cs.toArray 60)).alloc (.cells #[.int .i64 0, .int .u64 0, .string ⟨#[]⟩] 96)) := ((Qt.refl w).alloc _).alloc _
    generalize ((w.alloc (.cells cs.toArray 60)).alloc (.cells #[.int .i64 0, .int .u64 0, .string ⟨#[]⟩] 96)) = w1 at hb0 hg0 hq0 ⊢
    rw [← hB] at hb0 hg0 ⊢
    obtain ⟨G, hG⟩ : ∃ G, G = B + 1 := ⟨_, rfl⟩
    rw [← hG] at hg0 ⊢
    have hBG : B < G := by omega
    have hBw : w.heap.size ≤ B := by omega
    have HQ0 := Lib.hid hq0
    have HGG := hg0
    have HRG := Lib.hid (show w1.rangeAt B 0 (ndc n ++ [.slice A ks.length c, av]) from hb0.range 0 _ (by rw [HCS.out]; rfl))
    have HBW := Lib.hid hBw
    have HBB := Lib.hid hBG
    clear hb0 hq0 hB hG hg0
    refine wp_region_held (S := (fun u => u.rangeAt B 0 (ndc n ++ [.slice A ks.length c, av]))) (by kernel_rfl) ?_
    change wpAnyH _ _ _ _ _ _ _ _ (World.drew _)
    refine genT fun F0 hA => ?_
    have z0 : F0.tmps.size = 15 := by rw [hA]; rfl
    have e1_0 : F0.eval (.tmp 1) = .pointer (some ⟨B, 0, none⟩) := by rw [hA]; rfl
    have e2_0 : F0.eval (.tmp 2) = .pointer (some ⟨G, 0, none⟩) := by rw [hA]; rfl
    have HA := Lib.hid hA
    clear hA
    have HS := Lib.hid (show World.rangeAt (World.drew _) _ _ _ from HRG.out)
    refine tkT (i := 0) (oi := _) (v := .pointer (some ⟨B, 0, none⟩)) rfl (by kernel_rfl) (by kernel_rfl) (by kernel_rfl) (fun _ _ _ h => h) HS.out (wantedT rfl) (fun w _ => faT rfl e1_0 (by go_simp)) ?_
    intro F1 hF
    replace hF : F1 = F0.put (some 4) (.pointer (some ⟨B, 0, none⟩)) := hF
    have z1 : F1.tmps.size = 15 := by rw [hF]; simpa [Act.put] using z0
    have e1_1 := (show F1.eval (.tmp 1) = F0.eval (.tmp 1) by rw [hF]; exact evO (by decide)).trans e1_0
    have e2_1 := (show F1.eval (.tmp 2) = F0.eval (.tmp 2) by rw [hF]; exact evO (by decide)).trans e2_0
    have e4_1 : F1.eval (.tmp 4) = .pointer (some ⟨B, 0, none⟩) := by rw [hF]; exact evS (by rw [z0]; decide)
    have HF1 := Lib.hid hF
    clear hF e1_0 e2_0
    refine tkT (i := 1) (oi := _) (v := .pointer (some ⟨B, 2, none⟩)) rfl (by kernel_rfl) (by kernel_rfl) (by kernel_rfl) (fun _ _ _ h => h) HS.out (wantedT rfl) (fun w _ => faT rfl e4_1 (by go_simp)) ?_
    intro F2 hF
    replace hF : F2 = F1.put (some 5) (.pointer (some ⟨B, 2, none⟩)) := hF
    have z2 : F2.tmps.size = 15 := by rw [hF]; simpa [Act.put] using z1
    have e1_2 := (show F2.eval (.tmp 1) = F1.eval (.tmp 1) by rw [hF]; exact evO (by decide)).trans e1_1
    have e2_2 := (show F2.eval (.tmp 2) = F1.eval (.tmp 2) by rw [hF]; exact evO (by decide)).trans e2_1
    have e5_2 : F2.eval (.tmp 5) = .pointer (some ⟨B, 2, none⟩) := by rw [hF]; exact evS (by rw [z1]; decide)
    have HF2 := Lib.hid hF
    clear hF e1_1 e2_1 e4_1
    refine tkT (i := 2) (oi := _) (v := .int .u64 n.f2) rfl (by kernel_rfl) (by kernel_rfl) (by kernel_rfl) (fun _ _ _ h => h) HS.out (wantedT rfl) (fun w hs => by have c1 := hs 2 (.int .u64 n.f2) rfl; simp only [Nat.zero_add] at c1; exact ldT rfl e5_2 (by go_simp)) ?_
    intro F3 hF
    replace hF : F3 = F2.put (some 6) (.int .u64 n.f2) := hF
    have z3 : F3.tmps.size = 15 := by rw [hF]; simpa [Act.put] using z2
    have e1_3 := (show F3.eval (.tmp 1) = F2.eval (.tmp 1) by rw [hF]; exact evO (by decide)).trans e1_2
    have e2_3 := (show F3.eval (.tmp 2) = F2.eval (.tmp 2) by rw [hF]; exact evO (by decide)).trans e2_2
    have e6_3 : F3.eval (.tmp 6) = .int .u64 n.f2 := by rw [hF]; exact evS (by rw [z2]; decide)
    have HF3 := Lib.hid hF
    clear hF e1_2 e2_2 e5_2
    refine tkT (i := 3) (oi := _) (v := .pointer (some ⟨B, 0, none⟩)) rfl (by kernel_rfl) (by kernel_rfl) (by kernel_rfl) (fun _ _ _ h => h) HS.out (wantedT rfl) (fun w _ => faT rfl e1_3 (by go_simp)) ?_
    intro F4 hF
    replace hF : F4 = F3.put (some 7) (.pointer (some ⟨B, 0, none⟩)) := hF
    have z4 : F4.tmps.size = 15 := by rw [hF]; simpa [Act.put] using z3
    have e1_4 := (show F4.eval (.tmp 1) = F3.eval (.tmp 1) by rw [hF]; exact evO (by decide)).trans e1_3
    have e2_4 := (show F4.eval (.tmp 2) = F3.eval (.tmp 2) by rw [hF]; exact evO (by decide)).trans e2_3
    have e6_4 := (show F4.eval (.tmp 6) = F3.eval (.tmp 6) by rw [hF]; exact evO (by decide)).trans e6_3
    have e7_4 : F4.eval (.tmp 7) = .pointer (some ⟨B, 0, none⟩) := by rw [hF]; exact evS (by rw [z3]; decide)
    have HF4 := Lib.hid hF
    clear hF e1_3 e2_3 e6_3
    refine tkT (i := 4) (oi := _) (v := .pointer (some ⟨B, 3, none⟩)) rfl (by kernel_rfl) (by kernel_rfl) (by kernel_rfl) (fun _ _ _ h => h) HS.out (wantedT rfl) (fun w _ => faT rfl e7_4 (by go_simp)) ?_
    intro F5 hF
    replace hF : F5 = F4.put (some 8) (.pointer (some ⟨B, 3, none⟩)) := hF
    have z5 : F5.tmps.size = 15 := by rw [hF]; simpa [Act.put] using z4
    have e1_5 := (show F5.eval (.tmp 1) = F4.eval (.tmp 1) by rw [hF]; exact evO (by decide)).trans e1_4
    have e2_5 := (show F5.eval (.tmp 2) = F4.eval (.tmp 2) by rw [hF]; exact evO (by decide)).trans e2_4
    have e6_5 := (show F5.eval (.tmp 6) = F4.eval (.tmp 6) by rw [hF]; exact evO (by decide)).trans e6_4
    have e8_5 : F5.eval (.tmp 8) = .pointer (some ⟨B, 3, none⟩) := by rw [hF]; exact evS (by rw [z4]; decide)
    have HF5 := Lib.hid hF
    clear hF e1_4 e2_4 e6_4 e7_4
    refine tkT (i := 5) (oi := _) (v := .string n.f3) rfl (by kernel_rfl) (by kernel_rfl) (by kernel_rfl) (fun _ _ _ h => h) HS.out (wantedT rfl) (fun w hs => by have c1 := hs 3 (.string n.f3) rfl; simp only [Nat.zero_add] at c1; exact ldT rfl e8_5 (by go_simp)) ?_
    intro F6 hF
    replace hF : F6 = F5.put (some 9) (.string n.f3) := hF
    have z6 : F6.tmps.size = 15 := by rw [hF]; simpa [Act.put] using z5
    have e1_6 := (show F6.eval (.tmp 1) = F5.eval (.tmp 1) by rw [hF]; exact evO (by decide)).trans e1_5
    have e2_6 := (show F6.eval (.tmp 2) = F5.eval (.tmp 2) by rw [hF]; exact evO (by decide)).trans e2_5
    have e6_6 := (show F6.eval (.tmp 6) = F5.eval (.tmp 6) by rw [hF]; exact evO (by decide)).trans e6_5
    have e9_6 : F6.eval (.tmp 9) = .string n.f3 := by rw [hF]; exact evS (by rw [z5]; decide)
    have HF6 := Lib.hid hF
    clear hF e1_5 e2_5 e6_5 e8_5
    refine tkT (i := 6) (oi := _) (v := .agg #[.int .i64 0, .int .u64 n.f2, .string n.f3]) rfl (by kernel_rfl) (by kernel_rfl) (by kernel_rfl) (fun _ _ _ h => h) HS.out (wantedT rfl) (fun w hs => bdT rfl (vals := #[(0, .int .i64 0), (1, .int .u64 n.f2), (2, .string n.f3)]) (by simp only [List.map_toArray, List.map_cons, List.map_nil, e6_6, e9_6] <;> rfl) (by kernel_rfl) w) ?_
    intro F7 hF
    replace hF : F7 = F6.put (some 10) (.agg #[.int .i64 0, .int .u64 n.f2, .string n.f3]) := hF
    have z7 : F7.tmps.size = 15 := by rw [hF]; simpa [Act.put] using z6
    have e1_7 := (show F7.eval (.tmp 1) = F6.eval (.tmp 1) by rw [hF]; exact evO (by decide)).trans e1_6
    have e2_7 := (show F7.eval (.tmp 2) = F6.eval (.tmp 2) by rw [hF]; exact evO (by decide)).trans e2_6
    have e10_7 : F7.eval (.tmp 10) = .agg #[.int .i64 0, .int .u64 n.f2, .string n.f3] := by rw [hF]; exact evS (by rw [z6]; decide)
    have HF7 := Lib.hid hF
    clear hF e1_6 e2_6 e6_6 e9_6
    refine tkT (i := 7) (oi := _) (v := .pointer (some ⟨B, 5, none⟩)) rfl (by kernel_rfl) (by kernel_rfl) (by kernel_rfl) (fun _ _ _ h => h) HS.out (wantedT rfl) (fun w _ => faT rfl e1_7 (by go_simp)) ?_
    intro F8 hF
    replace hF : F8 = F7.put (some 11) (.pointer (some ⟨B, 5, none⟩)) := hF
    have z8 : F8.tmps.size = 15 := by rw [hF]; simpa [Act.put] using z7
    have e2_8 := (show F8.eval (.tmp 2) = F7.eval (.tmp 2) by rw [hF]; exact evO (by decide)).trans e2_7
    have e10_8 := (show F8.eval (.tmp 10) = F7.eval (.tmp 10) by rw [hF]; exact evO (by decide)).trans e10_7
    have e11_8 : F8.eval (.tmp 11) = .pointer (some ⟨B, 5, none⟩) := by rw [hF]; exact evS (by rw [z7]; decide)
    have HF8 := Lib.hid hF
    clear hF e1_7 e2_7 e10_7
    refine tkT (i := 8) (oi := _) (v := .slice A ks.length c) rfl (by kernel_rfl) (by kernel_rfl) (by kernel_rfl) (fun _ _ _ h => h) HS.out (wantedT rfl) (fun w hs => by have c1 := hs 5 (.slice A ks.length c) rfl; simp only [Nat.zero_add] at c1; exact ldT rfl e11_8 (by go_simp)) ?_
    intro F9 hF
    replace hF : F9 = F8.put (some 12) (.slice A ks.length c) := hF
    have z9 : F9.tmps.size = 15 := by rw [hF]; simpa [Act.put] using z8
    have e2_9 := (show F9.eval (.tmp 2) = F8.eval (.tmp 2) by rw [hF]; exact evO (by decide)).trans e2_8
    have e10_9 := (show F9.eval (.tmp 10) = F8.eval (.tmp 10) by rw [hF]; exact evO (by decide)).trans e10_8
    have e12_9 : F9.eval (.tmp 12) = .slice A ks.length c := by rw [hF]; exact evS (by rw [z8]; decide)
    have HF9 := Lib.hid hF
    clear hF e2_8 e10_8 e11_8
    refine tkT (i := 9) (oi := _) (v := .int .i64 (ks.length : Int)) rfl (by kernel_rfl) (by kernel_rfl) (by kernel_rfl) (fun _ _ _ h => h) HS.out (wantedT rfl) (fun w _ => lnT (e := 60) rfl e12_9 (by kernel_rfl) w) ?_
    intro F10 hF
    replace hF : F10 = F9.put (some 13) (.int .i64 (ks.length : Int)) := hF
    have z10 : F10.tmps.size = 15 := by rw [hF]; simpa [Act.put] using z9
    have e2_10 := (show F10.eval (.tmp 2) = F9.eval (.tmp 2) by rw [hF]; exact evO (by decide)).trans e2_9
    have e10_10 := (show F10.eval (.tmp 10) = F9.eval (.tmp 10) by rw [hF]; exact evO (by decide)).trans e10_9
    have e13_10 : F10.eval (.tmp 13) = .int .i64 (ks.length : Int) := by rw [hF]; exact evS (by rw [z9]; decide)
    have HF10 := Lib.hid hF
    clear hF e2_9 e10_9 e12_9
    refine tkT (i := 10) (oi := _) (v := .bool false) rfl (by kernel_rfl) (by kernel_rfl) (by kernel_rfl) (fun _ _ _ h => h) HS.out (wantedT rfl) (fun w hs => boT rfl e13_10 rfl (by go_simp) (by go_simp)) ?_
    intro F11 hF
    replace hF : F11 = F10.put (some 14) (.bool false) := hF
    have z11 : F11.tmps.size = 15 := by rw [hF]; simpa [Act.put] using z10
    have e2_11 := (show F11.eval (.tmp 2) = F10.eval (.tmp 2) by rw [hF]; exact evO (by decide)).trans e2_10
    have e10_11 := (show F11.eval (.tmp 10) = F10.eval (.tmp 10) by rw [hF]; exact evO (by decide)).trans e10_10
    have e14_11 : F11.eval (.tmp 14) = .bool false := by rw [hF]; exact evS (by rw [z10]; decide)
    have HF11 := Lib.hid hF
    clear hF e2_10 e10_10 e13_10
    refine aloneT (i := 11) (oi := _) rfl (by kernel_rfl) (wantedT rfl) ?_
    refine wpStM rfl e2_11 e10_11 (cells := [.int .i64 0, .int .u64 n.f2, .string n.f3]) (t := 96) (c := [.int .i64 0, .int .u64 0, .string ⟨#[]⟩]) HGG (by show 3 ≤ 3; decide) (by kernel_rfl) (by intro u hu; simp only [List.mem_cons, List.not_mem_nil, or_false] at hu; rcases hu with rfl | rfl | rfl <;> rfl) ?_
    intro w3 og3 hz3 hb3
    refine ⟨rangeOg HS.out og3 (by omega), genT fun F12 hF => ?_⟩
    have HS := Lib.hid (rangeOg HS.out og3 (by omega))
    replace hF : F12 = F11.put none (undef) := hF
    have z12 : F12.tmps.size = 15 := by rw [hF]; simpa [Act.put] using z11
    have e14_12 := (show F12.eval (.tmp 14) = F11.eval (.tmp 14) by rw [hF]; exact rfl).trans e14_11
    have HF12 := Lib.hid hF
    clear hF e2_11 e10_11 e14_11
    refine tkT (i := 12) (oi := _) (v := .bool false) rfl (by kernel_rfl) (by kernel_rfl) (by kernel_rfl) (fun _ _ _ h => h) HS.out (wantedT rfl) (fun w _ => asT rfl e14_12 w) ?_
    intro F13 hF
    replace hF : F13 = F12.put (some 3) (.bool false) := hF
    have z13 : F13.tmps.size = 15 := by rw [hF]; simpa [Act.put] using z12
    have HF13 := Lib.hid hF
    clear hF e14_12
    refine wpAnyH_done (by kernel_rfl) ?_ _
    rw [HF13.out, HF12.out, HF11.out, HF10.out, HF9.out, HF8.out, HF7.out, HF6.out, HF5.out, HF4.out, HF3.out, HF2.out, HF1.out, HA.out]
    simp only [Act.put, List.setIfInBounds_toArray, List.set_cons_succ, List.set_cons_zero]
    clear HF13 HF12 HF11 HF10 HF9 HF8 HF7 HF6 HF5 HF4 HF3 HF2 HF1 HA z13 z12 z11 z10 z9 z8 z7 z6 z5 z4 z3 z2 z1 z0 
    try go_wp2
    refine bodyPost_ret (v := .tuple #[.agg #[.int .i64 0, .int .u64 n.f2, .string n.f3], .bool (false)]) (results_ct (cs := [.int .i64 0, .int .u64 n.f2, .string n.f3]) rfl _ _ G (.struct rs) rfl (by first | exact hb3 | exact HB3.out) _ rfl HRS.out rfl (by kernel_rfl)) rfl ?_
    exact ⟨by first | rfl | simp_all, og3.qt HQ0.out.drew (by have := HBW.out; have := HBB.out; omega)⟩

set_option maxRecDepth 100000 in
set_option maxHeartbeats 1000000 in
theorem kind2_any (n : Nd) (ks : List Tr) (cs : List Value) (ok : Nat → Prop) (w : World) (hm : (Tr.mk n ks).flat.length ≤ 1000000) (hbr : Br w ok cs (.mk n ks)) :
    Calls Try.prog 76 #[.agg cs.toArray] w fun e w' => e = .returned (.tuple #[.agg #[.int .i64 n.f1, .int .u64 n.f2, .string ⟨#[]⟩], .bool (decide (ks.length = 0) && decide ((n.f3.size : Int) ≤ 200))]) ∧ Qt w w' := by
  obtain ⟨A, c, avA, avc, cf, hcs, h7, h1, h5, hc, hK, _⟩ := hbr.parts
  obtain ⟨rs, hrs⟩ : ∃ fs, Try.prog.underlying 96 = some (.struct fs) := ⟨_, Try.underlying96⟩
  obtain ⟨av, hav⟩ : ∃ av : Value, av = .slice avA (Tr.mk n ks).flat.length avc := ⟨_, rfl⟩
  rw [← hav] at hcs
  have hkn : ks.length ≤ 1000000 := by have e1 : (Tr.mk n ks).flat.length = (flats ks).length + 1 := by simp [Tr.flat]
                                       have := flats_len ks
                                       omega
  obtain ⟨B, hB⟩ : ∃ B, B = w.heap.size := ⟨_, rfl⟩
  have HRS := Lib.hid hrs
  have HCS := Lib.hid hcs
  have HBR := Lib.hid hbr
  have HM := Lib.hid hm
  clear hK hrs hcs hav h5 hbr hm
  by_cases h0 : ks.length = 0
  · have g0 : ((ks.length : Int) == 0) = true := by rw [beq_iff_eq]; omega
    rw [show (decide (ks.length = 0)) = true from decide_eq_true h0]
    rw [Bool.true_and]
    clear h0
    go_enter Try.func76, Try.ntmps76
    go_wp2
    have hb0 : Blk ((w.alloc (.cells cs.toArray 60)).alloc (.cells #[.int .i64 0, .int .u64 0, .string ⟨#[]⟩] 96)) w.heap.size 60 cs := (show Blk (w.alloc (.cells cs.toArray 60)) _ _ cs from heap_alloc_new w _).alloc _
    have hg0 : Blk ((w.alloc (.cells cs.toArray 60)).alloc (.cells #[.int .i64 0, .int .u64 0, .string ⟨#[]⟩] 96)) (w.heap.size + 1) 96 [.int .i64 0, .int .u64 0, .string ⟨#[]⟩] := by
      have h := heap_alloc_new (w.alloc (.cells cs.toArray 60)) (.cells #[.int .i64 0, .int .u64 0, .string ⟨#[]⟩] 96)
      rw [show (w.alloc (.cells cs.toArray 60)).heap.size = w.heap.size + 1 from by simp] at h
      exact h
    have hq0 : Qt w ((w.alloc (.cells cs.toArray 60)).alloc (.cells #[.int .i64 0, .int .u64 0, .string ⟨#[]⟩] 96)) := ((Qt.refl w).alloc _).alloc _
    generalize ((w.alloc (.cells cs.toArray 60)).alloc (.cells #[.int .i64 0, .int .u64 0, .string ⟨#[]⟩] 96)) = w1 at hb0 hg0 hq0 ⊢
    rw [← hB] at hb0 hg0 ⊢
    obtain ⟨G, hG⟩ : ∃ G, G = B + 1 := ⟨_, rfl⟩
    rw [← hG] at hg0 ⊢
    have hBG : B < G := by omega
    have hBw : w.heap.size ≤ B := by omega
    have HQ0 := Lib.hid hq0
    have HGG := hg0
    have HRG := Lib.hid (show w1.rangeAt B 0 (ndc n ++ [.slice A ks.length c, av]) from hb0.range 0 _ (by rw [HCS.out]; rfl))
    have HBW := Lib.hid hBw
    have HBB := Lib.hid hBG
    clear hb0 hq0 hB hG hg0
    refine wp_region_held (S := (fun u => u.rangeAt B 0 (ndc n ++ [.slice A ks.length c, av]))) (by kernel_rfl) ?_
    change wpAnyH _ _ _ _ _ _ _ _ (World.drew _)
    refine genT fun F0 hA => ?_
    have z0 : F0.tmps.size = 22 := by rw [hA]; rfl
    have e1_0 : F0.eval (.tmp 1) = .pointer (some ⟨B, 0, none⟩) := by rw [hA]; rfl
    have e2_0 : F0.eval (.tmp 2) = .pointer (some ⟨G, 0, none⟩) := by rw [hA]; rfl
    have HA := Lib.hid hA
    clear hA
    have HS := Lib.hid (show World.rangeAt (World.drew _) _ _ _ from HRG.out)
    refine tkT (i := 0) (oi := _) (v := .pointer (some ⟨B, 0, none⟩)) rfl (by kernel_rfl) (by kernel_rfl) (by kernel_rfl) (fun _ _ _ h => h) HS.out (wantedT rfl) (fun w _ => faT rfl e1_0 (by go_simp)) ?_
    intro F1 hF
    replace hF : F1 = F0.put (some 4) (.pointer (some ⟨B, 0, none⟩)) := hF
    have z1 : F1.tmps.size = 22 := by rw [hF]; simpa [Act.put] using z0
    have e1_1 := (show F1.eval (.tmp 1) = F0.eval (.tmp 1) by rw [hF]; exact evO (by decide)).trans e1_0
    have e2_1 := (show F1.eval (.tmp 2) = F0.eval (.tmp 2) by rw [hF]; exact evO (by decide)).trans e2_0
    have e4_1 : F1.eval (.tmp 4) = .pointer (some ⟨B, 0, none⟩) := by rw [hF]; exact evS (by rw [z0]; decide)
    have HF1 := Lib.hid hF
    clear hF e1_0 e2_0
    refine tkT (i := 1) (oi := _) (v := .pointer (some ⟨B, 1, none⟩)) rfl (by kernel_rfl) (by kernel_rfl) (by kernel_rfl) (fun _ _ _ h => h) HS.out (wantedT rfl) (fun w _ => faT rfl e4_1 (by go_simp)) ?_
    intro F2 hF
    replace hF : F2 = F1.put (some 5) (.pointer (some ⟨B, 1, none⟩)) := hF
    have z2 : F2.tmps.size = 22 := by rw [hF]; simpa [Act.put] using z1
    have e1_2 := (show F2.eval (.tmp 1) = F1.eval (.tmp 1) by rw [hF]; exact evO (by decide)).trans e1_1
    have e2_2 := (show F2.eval (.tmp 2) = F1.eval (.tmp 2) by rw [hF]; exact evO (by decide)).trans e2_1
    have e5_2 : F2.eval (.tmp 5) = .pointer (some ⟨B, 1, none⟩) := by rw [hF]; exact evS (by rw [z1]; decide)
    have HF2 := Lib.hid hF
    clear hF e1_1 e2_1 e4_1
    refine tkT (i := 2) (oi := _) (v := .int .i64 n.f1) rfl (by kernel_rfl) (by kernel_rfl) (by kernel_rfl) (fun _ _ _ h => h) HS.out (wantedT rfl) (fun w hs => by have c1 := hs 1 (.int .i64 n.f1) rfl; simp only [Nat.zero_add] at c1; exact ldT rfl e5_2 (by go_simp)) ?_
    intro F3 hF
    replace hF : F3 = F2.put (some 6) (.int .i64 n.f1) := hF
    have z3 : F3.tmps.size = 22 := by rw [hF]; simpa [Act.put] using z2
    have e1_3 := (show F3.eval (.tmp 1) = F2.eval (.tmp 1) by rw [hF]; exact evO (by decide)).trans e1_2
    have e2_3 := (show F3.eval (.tmp 2) = F2.eval (.tmp 2) by rw [hF]; exact evO (by decide)).trans e2_2
    have e6_3 : F3.eval (.tmp 6) = .int .i64 n.f1 := by rw [hF]; exact evS (by rw [z2]; decide)
    have HF3 := Lib.hid hF
    clear hF e1_2 e2_2 e5_2
    refine tkT (i := 3) (oi := _) (v := .pointer (some ⟨B, 0, none⟩)) rfl (by kernel_rfl) (by kernel_rfl) (by kernel_rfl) (fun _ _ _ h => h) HS.out (wantedT rfl) (fun w _ => faT rfl e1_3 (by go_simp)) ?_
    intro F4 hF
    replace hF : F4 = F3.put (some 7) (.pointer (some ⟨B, 0, none⟩)) := hF
    have z4 : F4.tmps.size = 22 := by rw [hF]; simpa [Act.put] using z3
    have e1_4 := (show F4.eval (.tmp 1) = F3.eval (.tmp 1) by rw [hF]; exact evO (by decide)).trans e1_3
    have e2_4 := (show F4.eval (.tmp 2) = F3.eval (.tmp 2) by rw [hF]; exact evO (by decide)).trans e2_3
    have e6_4 := (show F4.eval (.tmp 6) = F3.eval (.tmp 6) by rw [hF]; exact evO (by decide)).trans e6_3
    have e7_4 : F4.eval (.tmp 7) = .pointer (some ⟨B, 0, none⟩) := by rw [hF]; exact evS (by rw [z3]; decide)
    have HF4 := Lib.hid hF
    clear hF e1_3 e2_3 e6_3
    refine tkT (i := 4) (oi := _) (v := .pointer (some ⟨B, 2, none⟩)) rfl (by kernel_rfl) (by kernel_rfl) (by kernel_rfl) (fun _ _ _ h => h) HS.out (wantedT rfl) (fun w _ => faT rfl e7_4 (by go_simp)) ?_
    intro F5 hF
    replace hF : F5 = F4.put (some 8) (.pointer (some ⟨B, 2, none⟩)) := hF
    have z5 : F5.tmps.size = 22 := by rw [hF]; simpa [Act.put] using z4
    have e1_5 := (show F5.eval (.tmp 1) = F4.eval (.tmp 1) by rw [hF]; exact evO (by decide)).trans e1_4
    have e2_5 := (show F5.eval (.tmp 2) = F4.eval (.tmp 2) by rw [hF]; exact evO (by decide)).trans e2_4
    have e6_5 := (show F5.eval (.tmp 6) = F4.eval (.tmp 6) by rw [hF]; exact evO (by decide)).trans e6_4
    have e8_5 : F5.eval (.tmp 8) = .pointer (some ⟨B, 2, none⟩) := by rw [hF]; exact evS (by rw [z4]; decide)
    have HF5 := Lib.hid hF
    clear hF e1_4 e2_4 e6_4 e7_4
    refine tkT (i := 5) (oi := _) (v := .int .u64 n.f2) rfl (by kernel_rfl) (by kernel_rfl) (by kernel_rfl) (fun _ _ _ h => h) HS.out (wantedT rfl) (fun w hs => by have c1 := hs 2 (.int .u64 n.f2) rfl; simp only [Nat.zero_add] at c1; exact ldT rfl e8_5 (by go_simp)) ?_
    intro F6 hF
    replace hF : F6 = F5.put (some 9) (.int .u64 n.f2) := hF
    have z6 : F6.tmps.size = 22 := by rw [hF]; simpa [Act.put] using z5
    have e1_6 := (show F6.eval (.tmp 1) = F5.eval (.tmp 1) by rw [hF]; exact evO (by decide)).trans e1_5
    have e2_6 := (show F6.eval (.tmp 2) = F5.eval (.tmp 2) by rw [hF]; exact evO (by decide)).trans e2_5
    have e6_6 := (show F6.eval (.tmp 6) = F5.eval (.tmp 6) by rw [hF]; exact evO (by decide)).trans e6_5
    have e9_6 : F6.eval (.tmp 9) = .int .u64 n.f2 := by rw [hF]; exact evS (by rw [z5]; decide)
    have HF6 := Lib.hid hF
    clear hF e1_5 e2_5 e6_5 e8_5
    refine tkT (i := 6) (oi := _) (v := .agg #[.int .i64 n.f1, .int .u64 n.f2, .string ⟨#[]⟩]) rfl (by kernel_rfl) (by kernel_rfl) (by kernel_rfl) (fun _ _ _ h => h) HS.out (wantedT rfl) (fun w hs => bdT rfl (vals := #[(0, .int .i64 n.f1), (1, .int .u64 n.f2), (2, .string ⟨#[]⟩)]) (by simp only [List.map_toArray, List.map_cons, List.map_nil, e6_6, e9_6] <;> rfl) (by kernel_rfl) w) ?_
    intro F7 hF
    replace hF : F7 = F6.put (some 10) (.agg #[.int .i64 n.f1, .int .u64 n.f2, .string ⟨#[]⟩]) := hF
    have z7 : F7.tmps.size = 22 := by rw [hF]; simpa [Act.put] using z6
    have e1_7 := (show F7.eval (.tmp 1) = F6.eval (.tmp 1) by rw [hF]; exact evO (by decide)).trans e1_6
    have e2_7 := (show F7.eval (.tmp 2) = F6.eval (.tmp 2) by rw [hF]; exact evO (by decide)).trans e2_6
    have e10_7 : F7.eval (.tmp 10) = .agg #[.int .i64 n.f1, .int .u64 n.f2, .string ⟨#[]⟩] := by rw [hF]; exact evS (by rw [z6]; decide)
    have HF7 := Lib.hid hF
    clear hF e1_6 e2_6 e6_6 e9_6
    refine tkT (i := 7) (oi := _) (v := .pointer (some ⟨B, 5, none⟩)) rfl (by kernel_rfl) (by kernel_rfl) (by kernel_rfl) (fun _ _ _ h => h) HS.out (wantedT rfl) (fun w _ => faT rfl e1_7 (by go_simp)) ?_
    intro F8 hF
    replace hF : F8 = F7.put (some 11) (.pointer (some ⟨B, 5, none⟩)) := hF
    have z8 : F8.tmps.size = 22 := by rw [hF]; simpa [Act.put] using z7
    have e1_8 := (show F8.eval (.tmp 1) = F7.eval (.tmp 1) by rw [hF]; exact evO (by decide)).trans e1_7
    have e2_8 := (show F8.eval (.tmp 2) = F7.eval (.tmp 2) by rw [hF]; exact evO (by decide)).trans e2_7
    have e10_8 := (show F8.eval (.tmp 10) = F7.eval (.tmp 10) by rw [hF]; exact evO (by decide)).trans e10_7
    have e11_8 : F8.eval (.tmp 11) = .pointer (some ⟨B, 5, none⟩) := by rw [hF]; exact evS (by rw [z7]; decide)
    have HF8 := Lib.hid hF
    clear hF e1_7 e2_7 e10_7
    refine tkT (i := 8) (oi := _) (v := .slice A ks.length c) rfl (by kernel_rfl) (by kernel_rfl) (by kernel_rfl) (fun _ _ _ h => h) HS.out (wantedT rfl) (fun w hs => by have c1 := hs 5 (.slice A ks.length c) rfl; simp only [Nat.zero_add] at c1; exact ldT rfl e11_8 (by go_simp)) ?_
    intro F9 hF
    replace hF : F9 = F8.put (some 12) (.slice A ks.length c) := hF
    have z9 : F9.tmps.size = 22 := by rw [hF]; simpa [Act.put] using z8
    have e1_9 := (show F9.eval (.tmp 1) = F8.eval (.tmp 1) by rw [hF]; exact evO (by decide)).trans e1_8
    have e2_9 := (show F9.eval (.tmp 2) = F8.eval (.tmp 2) by rw [hF]; exact evO (by decide)).trans e2_8
    have e10_9 := (show F9.eval (.tmp 10) = F8.eval (.tmp 10) by rw [hF]; exact evO (by decide)).trans e10_8
    have e12_9 : F9.eval (.tmp 12) = .slice A ks.length c := by rw [hF]; exact evS (by rw [z8]; decide)
    have HF9 := Lib.hid hF
    clear hF e1_8 e2_8 e10_8 e11_8
    refine tkT (i := 9) (oi := _) (v := .int .i64 (ks.length : Int)) rfl (by kernel_rfl) (by kernel_rfl) (by kernel_rfl) (fun _ _ _ h => h) HS.out (wantedT rfl) (fun w _ => lnT (e := 60) rfl e12_9 (by kernel_rfl) w) ?_
    intro F10 hF
    replace hF : F10 = F9.put (some 13) (.int .i64 (ks.length : Int)) := hF
    have z10 : F10.tmps.size = 22 := by rw [hF]; simpa [Act.put] using z9
    have e1_10 := (show F10.eval (.tmp 1) = F9.eval (.tmp 1) by rw [hF]; exact evO (by decide)).trans e1_9
    have e2_10 := (show F10.eval (.tmp 2) = F9.eval (.tmp 2) by rw [hF]; exact evO (by decide)).trans e2_9
    have e10_10 := (show F10.eval (.tmp 10) = F9.eval (.tmp 10) by rw [hF]; exact evO (by decide)).trans e10_9
    have e13_10 : F10.eval (.tmp 13) = .int .i64 (ks.length : Int) := by rw [hF]; exact evS (by rw [z9]; decide)
    have HF10 := Lib.hid hF
    clear hF e1_9 e2_9 e10_9 e12_9
    refine tkT (i := 10) (oi := _) (v := .bool true) rfl (by kernel_rfl) (by kernel_rfl) (by kernel_rfl) (fun _ _ _ h => h) HS.out (wantedT rfl) (fun w hs => boT rfl e13_10 rfl (by go_simp) (by go_simp)) ?_
    intro F11 hF
    replace hF : F11 = F10.put (some 14) (.bool true) := hF
    have z11 : F11.tmps.size = 22 := by rw [hF]; simpa [Act.put] using z10
    have e1_11 := (show F11.eval (.tmp 1) = F10.eval (.tmp 1) by rw [hF]; exact evO (by decide)).trans e1_10
    have e2_11 := (show F11.eval (.tmp 2) = F10.eval (.tmp 2) by rw [hF]; exact evO (by decide)).trans e2_10
    have e10_11 := (show F11.eval (.tmp 10) = F10.eval (.tmp 10) by rw [hF]; exact evO (by decide)).trans e10_10
    have e14_11 : F11.eval (.tmp 14) = .bool true := by rw [hF]; exact evS (by rw [z10]; decide)
    have HF11 := Lib.hid hF
    clear hF e1_10 e2_10 e10_10 e13_10
    refine tkT (i := 11) (oi := _) (v := .bool true) rfl (by kernel_rfl) (by kernel_rfl) (by kernel_rfl) (fun _ _ _ h => h) HS.out (wantedT rfl) (fun w _ => mvT rfl e14_11 w) ?_
    intro F12 hF
    replace hF : F12 = F11.put (some 15) (.bool true) := hF
    have z12 : F12.tmps.size = 22 := by rw [hF]; simpa [Act.put] using z11
    have e1_12 := (show F12.eval (.tmp 1) = F11.eval (.tmp 1) by rw [hF]; exact evO (by decide)).trans e1_11
    have e2_12 := (show F12.eval (.tmp 2) = F11.eval (.tmp 2) by rw [hF]; exact evO (by decide)).trans e2_11
    have e10_12 := (show F12.eval (.tmp 10) = F11.eval (.tmp 10) by rw [hF]; exact evO (by decide)).trans e10_11
    have e15_12 : F12.eval (.tmp 15) = .bool true := by rw [hF]; exact evS (by rw [z11]; decide)
    have HF12 := Lib.hid hF
    clear hF e1_11 e2_11 e10_11 e14_11
    refine tkT (i := 12) (oi := _) (v := .pointer (some ⟨B, 0, none⟩)) rfl (by kernel_rfl) (by kernel_rfl) (by kernel_rfl) (fun _ _ _ h => h) HS.out (by rw [wantedG (d := 15) rfl rfl e15_12 (by rw [z12]; decide)]; rfl) (fun w _ => faT rfl e1_12 (by go_simp)) ?_
    intro F13 hF
    replace hF : F13 = F12.put (some 16) (.pointer (some ⟨B, 0, none⟩)) := hF
    have z13 : F13.tmps.size = 22 := by rw [hF]; simpa [Act.put] using z12
    have e2_13 := (show F13.eval (.tmp 2) = F12.eval (.tmp 2) by rw [hF]; exact evO (by decide)).trans e2_12
    have e10_13 := (show F13.eval (.tmp 10) = F12.eval (.tmp 10) by rw [hF]; exact evO (by decide)).trans e10_12
    have e15_13 := (show F13.eval (.tmp 15) = F12.eval (.tmp 15) by rw [hF]; exact evO (by decide)).trans e15_12
    have e16_13 : F13.eval (.tmp 16) = .pointer (some ⟨B, 0, none⟩) := by rw [hF]; exact evS (by rw [z12]; decide)
    have HF13 := Lib.hid hF
    clear hF e1_12 e2_12 e10_12 e15_12
    refine tkT (i := 13) (oi := _) (v := .pointer (some ⟨B, 3, none⟩)) rfl (by kernel_rfl) (by kernel_rfl) (by kernel_rfl) (fun _ _ _ h => h) HS.out (by rw [wantedG (d := 15) rfl rfl e15_13 (by rw [z13]; decide)]; rfl) (fun w _ => faT rfl e16_13 (by go_simp)) ?_
    intro F14 hF
    replace hF : F14 = F13.put (some 17) (.pointer (some ⟨B, 3, none⟩)) := hF
    have z14 : F14.tmps.size = 22 := by rw [hF]; simpa [Act.put] using z13
    have e2_14 := (show F14.eval (.tmp 2) = F13.eval (.tmp 2) by rw [hF]; exact evO (by decide)).trans e2_13
    have e10_14 := (show F14.eval (.tmp 10) = F13.eval (.tmp 10) by rw [hF]; exact evO (by decide)).trans e10_13
    have e15_14 := (show F14.eval (.tmp 15) = F13.eval (.tmp 15) by rw [hF]; exact evO (by decide)).trans e15_13
    have e17_14 : F14.eval (.tmp 17) = .pointer (some ⟨B, 3, none⟩) := by rw [hF]; exact evS (by rw [z13]; decide)
    have HF14 := Lib.hid hF
    clear hF e2_13 e10_13 e15_13 e16_13
    refine tkT (i := 14) (oi := _) (v := .string n.f3) rfl (by kernel_rfl) (by kernel_rfl) (by kernel_rfl) (fun _ _ _ h => h) HS.out (by rw [wantedG (d := 15) rfl rfl e15_14 (by rw [z14]; decide)]; rfl) (fun w hs => by have c1 := hs 3 (.string n.f3) rfl; simp only [Nat.zero_add] at c1; exact ldT rfl e17_14 (by go_simp)) ?_
    intro F15 hF
    replace hF : F15 = F14.put (some 18) (.string n.f3) := hF
    have z15 : F15.tmps.size = 22 := by rw [hF]; simpa [Act.put] using z14
    have e2_15 := (show F15.eval (.tmp 2) = F14.eval (.tmp 2) by rw [hF]; exact evO (by decide)).trans e2_14
    have e10_15 := (show F15.eval (.tmp 10) = F14.eval (.tmp 10) by rw [hF]; exact evO (by decide)).trans e10_14
    have e15_15 := (show F15.eval (.tmp 15) = F14.eval (.tmp 15) by rw [hF]; exact evO (by decide)).trans e15_14
    have e18_15 : F15.eval (.tmp 18) = .string n.f3 := by rw [hF]; exact evS (by rw [z14]; decide)
    have HF15 := Lib.hid hF
    clear hF e2_14 e10_14 e15_14 e17_14
    refine tkT (i := 15) (oi := _) (v := .int .i64 (n.f3.size : Int)) rfl (by kernel_rfl) (by kernel_rfl) (by kernel_rfl) (fun _ _ _ h => h) HS.out (by rw [wantedG (d := 15) rfl rfl e15_15 (by rw [z15]; decide)]; rfl) (fun w hs => lsT rfl e18_15 (by kernel_rfl) w) ?_
    intro F16 hF
    replace hF : F16 = F15.put (some 19) (.int .i64 (n.f3.size : Int)) := hF
    have z16 : F16.tmps.size = 22 := by rw [hF]; simpa [Act.put] using z15
    have e2_16 := (show F16.eval (.tmp 2) = F15.eval (.tmp 2) by rw [hF]; exact evO (by decide)).trans e2_15
    have e10_16 := (show F16.eval (.tmp 10) = F15.eval (.tmp 10) by rw [hF]; exact evO (by decide)).trans e10_15
    have e15_16 := (show F16.eval (.tmp 15) = F15.eval (.tmp 15) by rw [hF]; exact evO (by decide)).trans e15_15
    have e19_16 : F16.eval (.tmp 19) = .int .i64 (n.f3.size : Int) := by rw [hF]; exact evS (by rw [z15]; decide)
    have HF16 := Lib.hid hF
    clear hF e2_15 e10_15 e15_15 e18_15
    refine tkT (i := 16) (oi := _) (v := .bool (decide ((n.f3.size : Int) ≤ 200))) rfl (by kernel_rfl) (by kernel_rfl) (by kernel_rfl) (fun _ _ _ h => h) HS.out (by rw [wantedG (d := 15) rfl rfl e15_16 (by rw [z16]; decide)]; rfl) (fun w hs => boT rfl e19_16 rfl (by go_simp) (by go_simp)) ?_
    intro F17 hF
    replace hF : F17 = F16.put (some 20) (.bool (decide ((n.f3.size : Int) ≤ 200))) := hF
    have z17 : F17.tmps.size = 22 := by rw [hF]; simpa [Act.put] using z16
    have e2_17 := (show F17.eval (.tmp 2) = F16.eval (.tmp 2) by rw [hF]; exact evO (by decide)).trans e2_16
    have e10_17 := (show F17.eval (.tmp 10) = F16.eval (.tmp 10) by rw [hF]; exact evO (by decide)).trans e10_16
    have e15_17 := (show F17.eval (.tmp 15) = F16.eval (.tmp 15) by rw [hF]; exact evO (by decide)).trans e15_16
    have e20_17 : F17.eval (.tmp 20) = .bool (decide ((n.f3.size : Int) ≤ 200)) := by rw [hF]; exact evS (by rw [z16]; decide)
    have HF17 := Lib.hid hF
    clear hF e2_16 e10_16 e15_16 e19_16
    refine tkT (i := 17) (oi := _) (v := .bool (decide ((n.f3.size : Int) ≤ 200))) rfl (by kernel_rfl) (by kernel_rfl) (by kernel_rfl) (fun _ _ _ h => h) HS.out (wantedT rfl) (fun w hs => pkT rfl e15_17 e20_17 rfl w) ?_
    intro F18 hF
    replace hF : F18 = F17.put (some 21) (.bool (decide ((n.f3.size : Int) ≤ 200))) := hF
    have z18 : F18.tmps.size = 22 := by rw [hF]; simpa [Act.put] using z17
    have e2_18 := (show F18.eval (.tmp 2) = F17.eval (.tmp 2) by rw [hF]; exact evO (by decide)).trans e2_17
    have e10_18 := (show F18.eval (.tmp 10) = F17.eval (.tmp 10) by rw [hF]; exact evO (by decide)).trans e10_17
    have e21_18 : F18.eval (.tmp 21) = .bool (decide ((n.f3.size : Int) ≤ 200)) := by rw [hF]; exact evS (by rw [z17]; decide)
    have HF18 := Lib.hid hF
    clear hF e2_17 e10_17 e15_17 e20_17
    refine aloneT (i := 18) (oi := _) rfl (by kernel_rfl) (wantedT rfl) ?_
    refine wpStM rfl e2_18 e10_18 (cells := [.int .i64 n.f1, .int .u64 n.f2, .string ⟨#[]⟩]) (t := 96) (c := [.int .i64 0, .int .u64 0, .string ⟨#[]⟩]) HGG (by show 3 ≤ 3; decide) (by kernel_rfl) (by intro u hu; simp only [List.mem_cons, List.not_mem_nil, or_false] at hu; rcases hu with rfl | rfl | rfl <;> rfl) ?_
    intro w3 og3 hz3 hb3
    refine ⟨rangeOg HS.out og3 (by omega), genT fun F19 hF => ?_⟩
    have HS := Lib.hid (rangeOg HS.out og3 (by omega))
    replace hF : F19 = F18.put none (undef) := hF
    have z19 : F19.tmps.size = 22 := by rw [hF]; simpa [Act.put] using z18
    have e21_19 := (show F19.eval (.tmp 21) = F18.eval (.tmp 21) by rw [hF]; exact rfl).trans e21_18
    have HF19 := Lib.hid hF
    clear hF e2_18 e10_18 e21_18
    refine tkT (i := 19) (oi := _) (v := .bool (decide ((n.f3.size : Int) ≤ 200))) rfl (by kernel_rfl) (by kernel_rfl) (by kernel_rfl) (fun _ _ _ h => h) HS.out (wantedT rfl) (fun w _ => asT rfl e21_19 w) ?_
    intro F20 hF
    replace hF : F20 = F19.put (some 3) (.bool (decide ((n.f3.size : Int) ≤ 200))) := hF
    have z20 : F20.tmps.size = 22 := by rw [hF]; simpa [Act.put] using z19
    have HF20 := Lib.hid hF
    clear hF e21_19
    refine wpAnyH_done (by kernel_rfl) ?_ _
    rw [HF20.out, HF19.out, HF18.out, HF17.out, HF16.out, HF15.out, HF14.out, HF13.out, HF12.out, HF11.out, HF10.out, HF9.out, HF8.out, HF7.out, HF6.out, HF5.out, HF4.out, HF3.out, HF2.out, HF1.out, HA.out]
    simp only [Act.put, List.setIfInBounds_toArray, List.set_cons_succ, List.set_cons_zero]
    clear HF20 HF19 HF18 HF17 HF16 HF15 HF14 HF13 HF12 HF11 HF10 HF9 HF8 HF7 HF6 HF5 HF4 HF3 HF2 HF1 HA z20 z19 z18 z17 z16 z15 z14 z13 z12 z11 z10 z9 z8 z7 z6 z5 z4 z3 z2 z1 z0 
    try go_wp2
    refine bodyPost_ret (v := .tuple #[.agg #[.int .i64 n.f1, .int .u64 n.f2, .string ⟨#[]⟩], .bool (decide ((n.f3.size : Int) ≤ 200))]) (results_ct (cs := [.int .i64 n.f1, .int .u64 n.f2, .string ⟨#[]⟩]) rfl _ _ G (.struct rs) rfl (by first | exact hb3 | exact HB3.out) _ rfl HRS.out rfl (by kernel_rfl)) rfl ?_
    exact ⟨by first | rfl | simp_all, og3.qt HQ0.out.drew (by have := HBW.out; have := HBB.out; omega)⟩
  · have g0 : ((ks.length : Int) == 0) = false := by rw [beq_eq_false_iff_ne]; omega
    rw [show (decide (ks.length = 0)) = false from decide_eq_false h0]
    rw [Bool.false_and]
    clear h0
    go_enter Try.func76, Try.ntmps76
    go_wp2
    have hb0 : Blk ((w.alloc (.cells cs.toArray 60)).alloc (.cells #[.int .i64 0, .int .u64 0, .string ⟨#[]⟩] 96)) w.heap.size 60 cs := (show Blk (w.alloc (.cells cs.toArray 60)) _ _ cs from heap_alloc_new w _).alloc _
    have hg0 : Blk ((w.alloc (.cells cs.toArray 60)).alloc (.cells #[.int .i64 0, .int .u64 0, .string ⟨#[]⟩] 96)) (w.heap.size + 1) 96 [.int .i64 0, .int .u64 0, .string ⟨#[]⟩] := by
      have h := heap_alloc_new (w.alloc (.cells cs.toArray 60)) (.cells #[.int .i64 0, .int .u64 0, .string ⟨#[]⟩] 96)
      rw [show (w.alloc (.cells cs.toArray 60)).heap.size = w.heap.size + 1 from by simp] at h
      exact h
    have hq0 : Qt w ((w.alloc (.cells cs.toArray 60)).alloc (.cells #[.int .i64 0, .int .u64 0, .string ⟨#[]⟩] 96)) := ((Qt.refl w).alloc _).alloc _
    generalize ((w.alloc (.cells cs.toArray 60)).alloc (.cells #[.int .i64 0, .int .u64 0, .string ⟨#[]⟩] 96)) = w1 at hb0 hg0 hq0 ⊢
    rw [← hB] at hb0 hg0 ⊢
    obtain ⟨G, hG⟩ : ∃ G, G = B + 1 := ⟨_, rfl⟩
    rw [← hG] at hg0 ⊢
    have hBG : B < G := by omega
    have hBw : w.heap.size ≤ B := by omega
    have HQ0 := Lib.hid hq0
    have HGG := hg0
    have HRG := Lib.hid (show w1.rangeAt B 0 (ndc n ++ [.slice A ks.length c, av]) from hb0.range 0 _ (by rw [HCS.out]; rfl))
    have HBW := Lib.hid hBw
    have HBB := Lib.hid hBG
    clear hb0 hq0 hB hG hg0
    refine wp_region_held (S := (fun u => u.rangeAt B 0 (ndc n ++ [.slice A ks.length c, av]))) (by kernel_rfl) ?_
    change wpAnyH _ _ _ _ _ _ _ _ (World.drew _)
    refine genT fun F0 hA => ?_
    have z0 : F0.tmps.size = 22 := by rw [hA]; rfl
    have e1_0 : F0.eval (.tmp 1) = .pointer (some ⟨B, 0, none⟩) := by rw [hA]; rfl
    have e2_0 : F0.eval (.tmp 2) = .pointer (some ⟨G, 0, none⟩) := by rw [hA]; rfl
    have HA := Lib.hid hA
    clear hA
    have HS := Lib.hid (show World.rangeAt (World.drew _) _ _ _ from HRG.out)
    refine tkT (i := 0) (oi := _) (v := .pointer (some ⟨B, 0, none⟩)) rfl (by kernel_rfl) (by kernel_rfl) (by kernel_rfl) (fun _ _ _ h => h) HS.out (wantedT rfl) (fun w _ => faT rfl e1_0 (by go_simp)) ?_
    intro F1 hF
    replace hF : F1 = F0.put (some 4) (.pointer (some ⟨B, 0, none⟩)) := hF
    have z1 : F1.tmps.size = 22 := by rw [hF]; simpa [Act.put] using z0
    have e1_1 := (show F1.eval (.tmp 1) = F0.eval (.tmp 1) by rw [hF]; exact evO (by decide)).trans e1_0
    have e2_1 := (show F1.eval (.tmp 2) = F0.eval (.tmp 2) by rw [hF]; exact evO (by decide)).trans e2_0
    have e4_1 : F1.eval (.tmp 4) = .pointer (some ⟨B, 0, none⟩) := by rw [hF]; exact evS (by rw [z0]; decide)
    have HF1 := Lib.hid hF
    clear hF e1_0 e2_0
    refine tkT (i := 1) (oi := _) (v := .pointer (some ⟨B, 1, none⟩)) rfl (by kernel_rfl) (by kernel_rfl) (by kernel_rfl) (fun _ _ _ h => h) HS.out (wantedT rfl) (fun w _ => faT rfl e4_1 (by go_simp)) ?_
    intro F2 hF
    replace hF : F2 = F1.put (some 5) (.pointer (some ⟨B, 1, none⟩)) := hF
    have z2 : F2.tmps.size = 22 := by rw [hF]; simpa [Act.put] using z1
    have e1_2 := (show F2.eval (.tmp 1) = F1.eval (.tmp 1) by rw [hF]; exact evO (by decide)).trans e1_1
    have e2_2 := (show F2.eval (.tmp 2) = F1.eval (.tmp 2) by rw [hF]; exact evO (by decide)).trans e2_1
    have e5_2 : F2.eval (.tmp 5) = .pointer (some ⟨B, 1, none⟩) := by rw [hF]; exact evS (by rw [z1]; decide)
    have HF2 := Lib.hid hF
    clear hF e1_1 e2_1 e4_1
    refine tkT (i := 2) (oi := _) (v := .int .i64 n.f1) rfl (by kernel_rfl) (by kernel_rfl) (by kernel_rfl) (fun _ _ _ h => h) HS.out (wantedT rfl) (fun w hs => by have c1 := hs 1 (.int .i64 n.f1) rfl; simp only [Nat.zero_add] at c1; exact ldT rfl e5_2 (by go_simp)) ?_
    intro F3 hF
    replace hF : F3 = F2.put (some 6) (.int .i64 n.f1) := hF
    have z3 : F3.tmps.size = 22 := by rw [hF]; simpa [Act.put] using z2
    have e1_3 := (show F3.eval (.tmp 1) = F2.eval (.tmp 1) by rw [hF]; exact evO (by decide)).trans e1_2
    have e2_3 := (show F3.eval (.tmp 2) = F2.eval (.tmp 2) by rw [hF]; exact evO (by decide)).trans e2_2
    have e6_3 : F3.eval (.tmp 6) = .int .i64 n.f1 := by rw [hF]; exact evS (by rw [z2]; decide)
    have HF3 := Lib.hid hF
    clear hF e1_2 e2_2 e5_2
    refine tkT (i := 3) (oi := _) (v := .pointer (some ⟨B, 0, none⟩)) rfl (by kernel_rfl) (by kernel_rfl) (by kernel_rfl) (fun _ _ _ h => h) HS.out (wantedT rfl) (fun w _ => faT rfl e1_3 (by go_simp)) ?_
    intro F4 hF
    replace hF : F4 = F3.put (some 7) (.pointer (some ⟨B, 0, none⟩)) := hF
    have z4 : F4.tmps.size = 22 := by rw [hF]; simpa [Act.put] using z3
    have e1_4 := (show F4.eval (.tmp 1) = F3.eval (.tmp 1) by rw [hF]; exact evO (by decide)).trans e1_3
    have e2_4 := (show F4.eval (.tmp 2) = F3.eval (.tmp 2) by rw [hF]; exact evO (by decide)).trans e2_3
    have e6_4 := (show F4.eval (.tmp 6) = F3.eval (.tmp 6) by rw [hF]; exact evO (by decide)).trans e6_3
    have e7_4 : F4.eval (.tmp 7) = .pointer (some ⟨B, 0, none⟩) := by rw [hF]; exact evS (by rw [z3]; decide)
    have HF4 := Lib.hid hF
    clear hF e1_3 e2_3 e6_3
    refine tkT (i := 4) (oi := _) (v := .pointer (some ⟨B, 2, none⟩)) rfl (by kernel_rfl) (by kernel_rfl) (by kernel_rfl) (fun _ _ _ h => h) HS.out (wantedT rfl) (fun w _ => faT rfl e7_4 (by go_simp)) ?_
    intro F5 hF
    replace hF : F5 = F4.put (some 8) (.pointer (some ⟨B, 2, none⟩)) := hF
    have z5 : F5.tmps.size = 22 := by rw [hF]; simpa [Act.put] using z4
    have e1_5 := (show F5.eval (.tmp 1) = F4.eval (.tmp 1) by rw [hF]; exact evO (by decide)).trans e1_4
    have e2_5 := (show F5.eval (.tmp 2) = F4.eval (.tmp 2) by rw [hF]; exact evO (by decide)).trans e2_4
    have e6_5 := (show F5.eval (.tmp 6) = F4.eval (.tmp 6) by rw [hF]; exact evO (by decide)).trans e6_4
    have e8_5 : F5.eval (.tmp 8) = .pointer (some ⟨B, 2, none⟩) := by rw [hF]; exact evS (by rw [z4]; decide)
    have HF5 := Lib.hid hF
    clear hF e1_4 e2_4 e6_4 e7_4
    refine tkT (i := 5) (oi := _) (v := .int .u64 n.f2) rfl (by kernel_rfl) (by kernel_rfl) (by kernel_rfl) (fun _ _ _ h => h) HS.out (wantedT rfl) (fun w hs => by have c1 := hs 2 (.int .u64 n.f2) rfl; simp only [Nat.zero_add] at c1; exact ldT rfl e8_5 (by go_simp)) ?_
    intro F6 hF
    replace hF : F6 = F5.put (some 9) (.int .u64 n.f2) := hF
    have z6 : F6.tmps.size = 22 := by rw [hF]; simpa [Act.put] using z5
    have e1_6 := (show F6.eval (.tmp 1) = F5.eval (.tmp 1) by rw [hF]; exact evO (by decide)).trans e1_5
    have e2_6 := (show F6.eval (.tmp 2) = F5.eval (.tmp 2) by rw [hF]; exact evO (by decide)).trans e2_5
    have e6_6 := (show F6.eval (.tmp 6) = F5.eval (.tmp 6) by rw [hF]; exact evO (by decide)).trans e6_5
    have e9_6 : F6.eval (.tmp 9) = .int .u64 n.f2 := by rw [hF]; exact evS (by rw [z5]; decide)
    have HF6 := Lib.hid hF
    clear hF e1_5 e2_5 e6_5 e8_5
    refine tkT (i := 6) (oi := _) (v := .agg #[.int .i64 n.f1, .int .u64 n.f2, .string ⟨#[]⟩]) rfl (by kernel_rfl) (by kernel_rfl) (by kernel_rfl) (fun _ _ _ h => h) HS.out (wantedT rfl) (fun w hs => bdT rfl (vals := #[(0, .int .i64 n.f1), (1, .int .u64 n.f2), (2, .string ⟨#[]⟩)]) (by simp only [List.map_toArray, List.map_cons, List.map_nil, e6_6, e9_6] <;> rfl) (by kernel_rfl) w) ?_
    intro F7 hF
    replace hF : F7 = F6.put (some 10) (.agg #[.int .i64 n.f1, .int .u64 n.f2, .string ⟨#[]⟩]) := hF
    have z7 : F7.tmps.size = 22 := by rw [hF]; simpa [Act.put] using z6
    have e1_7 := (show F7.eval (.tmp 1) = F6.eval (.tmp 1) by rw [hF]; exact evO (by decide)).trans e1_6
    have e2_7 := (show F7.eval (.tmp 2) = F6.eval (.tmp 2) by rw [hF]; exact evO (by decide)).trans e2_6
    have e10_7 : F7.eval (.tmp 10) = .agg #[.int .i64 n.f1, .int .u64 n.f2, .string ⟨#[]⟩] := by rw [hF]; exact evS (by rw [z6]; decide)
    have HF7 := Lib.hid hF
    clear hF e1_6 e2_6 e6_6 e9_6
    refine tkT (i := 7) (oi := _) (v := .pointer (some ⟨B, 5, none⟩)) rfl (by kernel_rfl) (by kernel_rfl) (by kernel_rfl) (fun _ _ _ h => h) HS.out (wantedT rfl) (fun w _ => faT rfl e1_7 (by go_simp)) ?_
    intro F8 hF
    replace hF : F8 = F7.put (some 11) (.pointer (some ⟨B, 5, none⟩)) := hF
    have z8 : F8.tmps.size = 22 := by rw [hF]; simpa [Act.put] using z7
    have e2_8 := (show F8.eval (.tmp 2) = F7.eval (.tmp 2) by rw [hF]; exact evO (by decide)).trans e2_7
    have e10_8 := (show F8.eval (.tmp 10) = F7.eval (.tmp 10) by rw [hF]; exact evO (by decide)).trans e10_7
    have e11_8 : F8.eval (.tmp 11) = .pointer (some ⟨B, 5, none⟩) := by rw [hF]; exact evS (by rw [z7]; decide)
    have HF8 := Lib.hid hF
    clear hF e1_7 e2_7 e10_7
    refine tkT (i := 8) (oi := _) (v := .slice A ks.length c) rfl (by kernel_rfl) (by kernel_rfl) (by kernel_rfl) (fun _ _ _ h => h) HS.out (wantedT rfl) (fun w hs => by have c1 := hs 5 (.slice A ks.length c) rfl; simp only [Nat.zero_add] at c1; exact ldT rfl e11_8 (by go_simp)) ?_
    intro F9 hF
    replace hF : F9 = F8.put (some 12) (.slice A ks.length c) := hF
    have z9 : F9.tmps.size = 22 := by rw [hF]; simpa [Act.put] using z8
    have e2_9 := (show F9.eval (.tmp 2) = F8.eval (.tmp 2) by rw [hF]; exact evO (by decide)).trans e2_8
    have e10_9 := (show F9.eval (.tmp 10) = F8.eval (.tmp 10) by rw [hF]; exact evO (by decide)).trans e10_8
    have e12_9 : F9.eval (.tmp 12) = .slice A ks.length c := by rw [hF]; exact evS (by rw [z8]; decide)
    have HF9 := Lib.hid hF
    clear hF e2_8 e10_8 e11_8
    refine tkT (i := 9) (oi := _) (v := .int .i64 (ks.length : Int)) rfl (by kernel_rfl) (by kernel_rfl) (by kernel_rfl) (fun _ _ _ h => h) HS.out (wantedT rfl) (fun w _ => lnT (e := 60) rfl e12_9 (by kernel_rfl) w) ?_
    intro F10 hF
    replace hF : F10 = F9.put (some 13) (.int .i64 (ks.length : Int)) := hF
    have z10 : F10.tmps.size = 22 := by rw [hF]; simpa [Act.put] using z9
    have e2_10 := (show F10.eval (.tmp 2) = F9.eval (.tmp 2) by rw [hF]; exact evO (by decide)).trans e2_9
    have e10_10 := (show F10.eval (.tmp 10) = F9.eval (.tmp 10) by rw [hF]; exact evO (by decide)).trans e10_9
    have e13_10 : F10.eval (.tmp 13) = .int .i64 (ks.length : Int) := by rw [hF]; exact evS (by rw [z9]; decide)
    have HF10 := Lib.hid hF
    clear hF e2_9 e10_9 e12_9
    refine tkT (i := 10) (oi := _) (v := .bool false) rfl (by kernel_rfl) (by kernel_rfl) (by kernel_rfl) (fun _ _ _ h => h) HS.out (wantedT rfl) (fun w hs => boT rfl e13_10 rfl (by go_simp) (by go_simp)) ?_
    intro F11 hF
    replace hF : F11 = F10.put (some 14) (.bool false) := hF
    have z11 : F11.tmps.size = 22 := by rw [hF]; simpa [Act.put] using z10
    have e2_11 := (show F11.eval (.tmp 2) = F10.eval (.tmp 2) by rw [hF]; exact evO (by decide)).trans e2_10
    have e10_11 := (show F11.eval (.tmp 10) = F10.eval (.tmp 10) by rw [hF]; exact evO (by decide)).trans e10_10
    have e14_11 : F11.eval (.tmp 14) = .bool false := by rw [hF]; exact evS (by rw [z10]; decide)
    have HF11 := Lib.hid hF
    clear hF e2_10 e10_10 e13_10
    refine tkT (i := 11) (oi := _) (v := .bool false) rfl (by kernel_rfl) (by kernel_rfl) (by kernel_rfl) (fun _ _ _ h => h) HS.out (wantedT rfl) (fun w _ => mvT rfl e14_11 w) ?_
    intro F12 hF
    replace hF : F12 = F11.put (some 15) (.bool false) := hF
    have z12 : F12.tmps.size = 22 := by rw [hF]; simpa [Act.put] using z11
    have e2_12 := (show F12.eval (.tmp 2) = F11.eval (.tmp 2) by rw [hF]; exact evO (by decide)).trans e2_11
    have e10_12 := (show F12.eval (.tmp 10) = F11.eval (.tmp 10) by rw [hF]; exact evO (by decide)).trans e10_11
    have e15_12 : F12.eval (.tmp 15) = .bool false := by rw [hF]; exact evS (by rw [z11]; decide)
    have HF12 := Lib.hid hF
    clear hF e2_11 e10_11 e14_11
    refine skT (i := 12) (oi := _) rfl (by kernel_rfl) (by kernel_rfl) (by kernel_rfl) (fun _ _ _ h => h) HS.out (by rw [wantedG (d := 15) rfl rfl e15_12 (by rw [z12]; decide)]; rfl) ?_
    intro F13 hF
    replace hF : F13 = F12.put (some 16) (undef) := hF
    have z13 : F13.tmps.size = 22 := by rw [hF]; simpa [Act.put] using z12
    have e2_13 := (show F13.eval (.tmp 2) = F12.eval (.tmp 2) by rw [hF]; exact evO (by decide)).trans e2_12
    have e10_13 := (show F13.eval (.tmp 10) = F12.eval (.tmp 10) by rw [hF]; exact evO (by decide)).trans e10_12
    have e15_13 := (show F13.eval (.tmp 15) = F12.eval (.tmp 15) by rw [hF]; exact evO (by decide)).trans e15_12
    have HF13 := Lib.hid hF
    clear hF e2_12 e10_12 e15_12
    refine skT (i := 13) (oi := _) rfl (by kernel_rfl) (by kernel_rfl) (by kernel_rfl) (fun _ _ _ h => h) HS.out (by rw [wantedG (d := 15) rfl rfl e15_13 (by rw [z13]; decide)]; rfl) ?_
    intro F14 hF
    replace hF : F14 = F13.put (some 17) (undef) := hF
    have z14 : F14.tmps.size = 22 := by rw [hF]; simpa [Act.put] using z13
    have e2_14 := (show F14.eval (.tmp 2) = F13.eval (.tmp 2) by rw [hF]; exact evO (by decide)).trans e2_13
    have e10_14 := (show F14.eval (.tmp 10) = F13.eval (.tmp 10) by rw [hF]; exact evO (by decide)).trans e10_13
    have e15_14 := (show F14.eval (.tmp 15) = F13.eval (.tmp 15) by rw [hF]; exact evO (by decide)).trans e15_13
    have HF14 := Lib.hid hF
    clear hF e2_13 e10_13 e15_13
    refine skT (i := 14) (oi := _) rfl (by kernel_rfl) (by kernel_rfl) (by kernel_rfl) (fun _ _ _ h => h) HS.out (by rw [wantedG (d := 15) rfl rfl e15_14 (by rw [z14]; decide)]; rfl) ?_
    intro F15 hF
    replace hF : F15 = F14.put (some 18) (undef) := hF
    have z15 : F15.tmps.size = 22 := by rw [hF]; simpa [Act.put] using z14
    have e2_15 := (show F15.eval (.tmp 2) = F14.eval (.tmp 2) by rw [hF]; exact evO (by decide)).trans e2_14
    have e10_15 := (show F15.eval (.tmp 10) = F14.eval (.tmp 10) by rw [hF]; exact evO (by decide)).trans e10_14
    have e15_15 := (show F15.eval (.tmp 15) = F14.eval (.tmp 15) by rw [hF]; exact evO (by decide)).trans e15_14
    have HF15 := Lib.hid hF
    clear hF e2_14 e10_14 e15_14
    refine skT (i := 15) (oi := _) rfl (by kernel_rfl) (by kernel_rfl) (by kernel_rfl) (fun _ _ _ h => h) HS.out (by rw [wantedG (d := 15) rfl rfl e15_15 (by rw [z15]; decide)]; rfl) ?_
    intro F16 hF
    replace hF : F16 = F15.put (some 19) (undef) := hF
    have z16 : F16.tmps.size = 22 := by rw [hF]; simpa [Act.put] using z15
    have e2_16 := (show F16.eval (.tmp 2) = F15.eval (.tmp 2) by rw [hF]; exact evO (by decide)).trans e2_15
    have e10_16 := (show F16.eval (.tmp 10) = F15.eval (.tmp 10) by rw [hF]; exact evO (by decide)).trans e10_15
    have e15_16 := (show F16.eval (.tmp 15) = F15.eval (.tmp 15) by rw [hF]; exact evO (by decide)).trans e15_15
    have HF16 := Lib.hid hF
    clear hF e2_15 e10_15 e15_15
    refine skT (i := 16) (oi := _) rfl (by kernel_rfl) (by kernel_rfl) (by kernel_rfl) (fun _ _ _ h => h) HS.out (by rw [wantedG (d := 15) rfl rfl e15_16 (by rw [z16]; decide)]; rfl) ?_
    intro F17 hF
    replace hF : F17 = F16.put (some 20) (undef) := hF
    have z17 : F17.tmps.size = 22 := by rw [hF]; simpa [Act.put] using z16
    have e2_17 := (show F17.eval (.tmp 2) = F16.eval (.tmp 2) by rw [hF]; exact evO (by decide)).trans e2_16
    have e10_17 := (show F17.eval (.tmp 10) = F16.eval (.tmp 10) by rw [hF]; exact evO (by decide)).trans e10_16
    have e15_17 := (show F17.eval (.tmp 15) = F16.eval (.tmp 15) by rw [hF]; exact evO (by decide)).trans e15_16
    have e20_17 : F17.eval (.tmp 20) = undef := by rw [hF]; exact evS (by rw [z16]; decide)
    have HF17 := Lib.hid hF
    clear hF e2_16 e10_16 e15_16
    refine tkT (i := 17) (oi := _) (v := .bool false) rfl (by kernel_rfl) (by kernel_rfl) (by kernel_rfl) (fun _ _ _ h => h) HS.out (wantedT rfl) (fun w hs => pkT (vy := .bool false) rfl e15_17 e20_17 rfl w) ?_
    intro F18 hF
    replace hF : F18 = F17.put (some 21) (.bool false) := hF
    have z18 : F18.tmps.size = 22 := by rw [hF]; simpa [Act.put] using z17
    have e2_18 := (show F18.eval (.tmp 2) = F17.eval (.tmp 2) by rw [hF]; exact evO (by decide)).trans e2_17
    have e10_18 := (show F18.eval (.tmp 10) = F17.eval (.tmp 10) by rw [hF]; exact evO (by decide)).trans e10_17
    have e21_18 : F18.eval (.tmp 21) = .bool false := by rw [hF]; exact evS (by rw [z17]; decide)
    have HF18 := Lib.hid hF
    clear hF e2_17 e10_17 e15_17 e20_17
    refine aloneT (i := 18) (oi := _) rfl (by kernel_rfl) (wantedT rfl) ?_
    refine wpStM rfl e2_18 e10_18 (cells := [.int .i64 n.f1, .int .u64 n.f2, .string ⟨#[]⟩]) (t := 96) (c := [.int .i64 0, .int .u64 0, .string ⟨#[]⟩]) HGG (by show 3 ≤ 3; decide) (by kernel_rfl) (by intro u hu; simp only [List.mem_cons, List.not_mem_nil, or_false] at hu; rcases hu with rfl | rfl | rfl <;> rfl) ?_
    intro w3 og3 hz3 hb3
    refine ⟨rangeOg HS.out og3 (by omega), genT fun F19 hF => ?_⟩
    have HS := Lib.hid (rangeOg HS.out og3 (by omega))
    replace hF : F19 = F18.put none (undef) := hF
    have z19 : F19.tmps.size = 22 := by rw [hF]; simpa [Act.put] using z18
    have e21_19 := (show F19.eval (.tmp 21) = F18.eval (.tmp 21) by rw [hF]; exact rfl).trans e21_18
    have HF19 := Lib.hid hF
    clear hF e2_18 e10_18 e21_18
    refine tkT (i := 19) (oi := _) (v := .bool false) rfl (by kernel_rfl) (by kernel_rfl) (by kernel_rfl) (fun _ _ _ h => h) HS.out (wantedT rfl) (fun w _ => asT rfl e21_19 w) ?_
    intro F20 hF
    replace hF : F20 = F19.put (some 3) (.bool false) := hF
    have z20 : F20.tmps.size = 22 := by rw [hF]; simpa [Act.put] using z19
    have HF20 := Lib.hid hF
    clear hF e21_19
    refine wpAnyH_done (by kernel_rfl) ?_ _
    rw [HF20.out, HF19.out, HF18.out, HF17.out, HF16.out, HF15.out, HF14.out, HF13.out, HF12.out, HF11.out, HF10.out, HF9.out, HF8.out, HF7.out, HF6.out, HF5.out, HF4.out, HF3.out, HF2.out, HF1.out, HA.out]
    simp only [Act.put, List.setIfInBounds_toArray, List.set_cons_succ, List.set_cons_zero]
    clear HF20 HF19 HF18 HF17 HF16 HF15 HF14 HF13 HF12 HF11 HF10 HF9 HF8 HF7 HF6 HF5 HF4 HF3 HF2 HF1 HA z20 z19 z18 z17 z16 z15 z14 z13 z12 z11 z10 z9 z8 z7 z6 z5 z4 z3 z2 z1 z0 
    try go_wp2
    refine bodyPost_ret (v := .tuple #[.agg #[.int .i64 n.f1, .int .u64 n.f2, .string ⟨#[]⟩], .bool (false)]) (results_ct (cs := [.int .i64 n.f1, .int .u64 n.f2, .string ⟨#[]⟩]) rfl _ _ G (.struct rs) rfl (by first | exact hb3 | exact HB3.out) _ rfl HRS.out rfl (by kernel_rfl)) rfl ?_
    exact ⟨by first | rfl | simp_all, og3.qt HQ0.out.drew (by have := HBW.out; have := HBB.out; omega)⟩

set_option maxRecDepth 100000 in
set_option maxHeartbeats 1000000 in
theorem kind3_any (n : Nd) (ks : List Tr) (cs : List Value) (ok : Nat → Prop) (w : World) (hm : (Tr.mk n ks).flat.length ≤ 1000000) (hbr : Br w ok cs (.mk n ks)) :
    Calls Try.prog 77 #[.agg cs.toArray] w fun e w' => e = .returned (.tuple #[.agg #[.int .i64 n.f1, .int .u64 0, .string n.f3], .bool (decide (ks.length = 0) && (fbits n.f2.toNat == n.f2))]) ∧ Qt w w' := by
  obtain ⟨A, c, avA, avc, cf, hcs, h7, h1, h5, hc, hK, _⟩ := hbr.parts
  obtain ⟨rs, hrs⟩ : ∃ fs, Try.prog.underlying 96 = some (.struct fs) := ⟨_, Try.underlying96⟩
  obtain ⟨av, hav⟩ : ∃ av : Value, av = .slice avA (Tr.mk n ks).flat.length avc := ⟨_, rfl⟩
  rw [← hav] at hcs
  have hkn : ks.length ≤ 1000000 := by have e1 : (Tr.mk n ks).flat.length = (flats ks).length + 1 := by simp [Tr.flat]
                                       have := flats_len ks
                                       omega
  obtain ⟨B, hB⟩ : ∃ B, B = w.heap.size := ⟨_, rfl⟩
  have HRS := Lib.hid hrs
  have HCS := Lib.hid hcs
  have HBR := Lib.hid hbr
  have HM := Lib.hid hm
  clear hK hrs hcs hav h5 hbr hm
  by_cases h0 : ks.length = 0
  · have g0 : ((ks.length : Int) == 0) = true := by rw [beq_iff_eq]; omega
    rw [show (decide (ks.length = 0)) = true from decide_eq_true h0]
    rw [Bool.true_and]
    clear h0
    go_enter Try.func77, Try.ntmps77
    go_wp2
    have hb0 : Blk ((w.alloc (.cells cs.toArray 60)).alloc (.cells #[.int .i64 0, .int .u64 0, .string ⟨#[]⟩] 96)) w.heap.size 60 cs := (show Blk (w.alloc (.cells cs.toArray 60)) _ _ cs from heap_alloc_new w _).alloc _
    have hg0 : Blk ((w.alloc (.cells cs.toArray 60)).alloc (.cells #[.int .i64 0, .int .u64 0, .string ⟨#[]⟩] 96)) (w.heap.size + 1) 96 [.int .i64 0, .int .u64 0, .string ⟨#[]⟩] := by
      have h := heap_alloc_new (w.alloc (.cells cs.toArray 60)) (.cells #[.int .i64 0, .int .u64 0, .string ⟨#[]⟩] 96)
      rw [show (w.alloc (.cells cs.toArray 60)).heap.size = w.heap.size + 1 from by simp] at h
      exact h
    have hq0 : Qt w ((w.alloc (.cells cs.toArray 60)).alloc (.cells #[.int .i64 0, .int .u64 0, .string ⟨#[]⟩] 96)) := ((Qt.refl w).alloc _).alloc _
    generalize ((w.alloc (.cells cs.toArray 60)).alloc (.cells #[.int .i64 0, .int .u64 0, .string ⟨#[]⟩] 96)) = w1 at hb0 hg0 hq0 ⊢
    rw [← hB] at hb0 hg0 ⊢
    obtain ⟨G, hG⟩ : ∃ G, G = B + 1 := ⟨_, rfl⟩
    rw [← hG] at hg0 ⊢
    have hBG : B < G := by omega
    have hBw : w.heap.size ≤ B := by omega
    have HQ0 := Lib.hid hq0
    have HGG := hg0
    have HRG := Lib.hid (show w1.rangeAt B 0 (ndc n ++ [.slice A ks.length c, av]) from hb0.range 0 _ (by rw [HCS.out]; rfl))
    have HBW := Lib.hid hBw
    have HBB := Lib.hid hBG
    clear hb0 hq0 hB hG hg0
    refine wp_region_held (S := (fun u => u.rangeAt B 0 (ndc n ++ [.slice A ks.length c, av]))) (by kernel_rfl) ?_
    change wpAnyH _ _ _ _ _ _ _ _ (World.drew _)
    refine genT fun F0 hA => ?_
    have z0 : F0.tmps.size = 21 := by rw [hA]; rfl
    have e1_0 : F0.eval (.tmp 1) = .pointer (some ⟨B, 0, none⟩) := by rw [hA]; rfl
    have e2_0 : F0.eval (.tmp 2) = .pointer (some ⟨G, 0, none⟩) := by rw [hA]; rfl
    have HA := Lib.hid hA
    clear hA
    have HS := Lib.hid (show World.rangeAt (World.drew _) _ _ _ from HRG.out)
    refine tkT (i := 0) (oi := _) (v := .pointer (some ⟨B, 0, none⟩)) rfl (by kernel_rfl) (by kernel_rfl) (by kernel_rfl) (fun _ _ _ h => h) HS.out (wantedT rfl) (fun w _ => faT rfl e1_0 (by go_simp)) ?_
    intro F1 hF
    replace hF : F1 = F0.put (some 4) (.pointer (some ⟨B, 0, none⟩)) := hF
    have z1 : F1.tmps.size = 21 := by rw [hF]; simpa [Act.put] using z0
    have e1_1 := (show F1.eval (.tmp 1) = F0.eval (.tmp 1) by rw [hF]; exact evO (by decide)).trans e1_0
    have e2_1 := (show F1.eval (.tmp 2) = F0.eval (.tmp 2) by rw [hF]; exact evO (by decide)).trans e2_0
    have e4_1 : F1.eval (.tmp 4) = .pointer (some ⟨B, 0, none⟩) := by rw [hF]; exact evS (by rw [z0]; decide)
    have HF1 := Lib.hid hF
    clear hF e1_0 e2_0
    refine tkT (i := 1) (oi := _) (v := .pointer (some ⟨B, 1, none⟩)) rfl (by kernel_rfl) (by kernel_rfl) (by kernel_rfl) (fun _ _ _ h => h) HS.out (wantedT rfl) (fun w _ => faT rfl e4_1 (by go_simp)) ?_
    intro F2 hF
    replace hF : F2 = F1.put (some 5) (.pointer (some ⟨B, 1, none⟩)) := hF
    have z2 : F2.tmps.size = 21 := by rw [hF]; simpa [Act.put] using z1
    have e1_2 := (show F2.eval (.tmp 1) = F1.eval (.tmp 1) by rw [hF]; exact evO (by decide)).trans e1_1
    have e2_2 := (show F2.eval (.tmp 2) = F1.eval (.tmp 2) by rw [hF]; exact evO (by decide)).trans e2_1
    have e5_2 : F2.eval (.tmp 5) = .pointer (some ⟨B, 1, none⟩) := by rw [hF]; exact evS (by rw [z1]; decide)
    have HF2 := Lib.hid hF
    clear hF e1_1 e2_1 e4_1
    refine tkT (i := 2) (oi := _) (v := .int .i64 n.f1) rfl (by kernel_rfl) (by kernel_rfl) (by kernel_rfl) (fun _ _ _ h => h) HS.out (wantedT rfl) (fun w hs => by have c1 := hs 1 (.int .i64 n.f1) rfl; simp only [Nat.zero_add] at c1; exact ldT rfl e5_2 (by go_simp)) ?_
    intro F3 hF
    replace hF : F3 = F2.put (some 6) (.int .i64 n.f1) := hF
    have z3 : F3.tmps.size = 21 := by rw [hF]; simpa [Act.put] using z2
    have e1_3 := (show F3.eval (.tmp 1) = F2.eval (.tmp 1) by rw [hF]; exact evO (by decide)).trans e1_2
    have e2_3 := (show F3.eval (.tmp 2) = F2.eval (.tmp 2) by rw [hF]; exact evO (by decide)).trans e2_2
    have e6_3 : F3.eval (.tmp 6) = .int .i64 n.f1 := by rw [hF]; exact evS (by rw [z2]; decide)
    have HF3 := Lib.hid hF
    clear hF e1_2 e2_2 e5_2
    refine tkT (i := 3) (oi := _) (v := .pointer (some ⟨B, 0, none⟩)) rfl (by kernel_rfl) (by kernel_rfl) (by kernel_rfl) (fun _ _ _ h => h) HS.out (wantedT rfl) (fun w _ => faT rfl e1_3 (by go_simp)) ?_
    intro F4 hF
    replace hF : F4 = F3.put (some 7) (.pointer (some ⟨B, 0, none⟩)) := hF
    have z4 : F4.tmps.size = 21 := by rw [hF]; simpa [Act.put] using z3
    have e1_4 := (show F4.eval (.tmp 1) = F3.eval (.tmp 1) by rw [hF]; exact evO (by decide)).trans e1_3
    have e2_4 := (show F4.eval (.tmp 2) = F3.eval (.tmp 2) by rw [hF]; exact evO (by decide)).trans e2_3
    have e6_4 := (show F4.eval (.tmp 6) = F3.eval (.tmp 6) by rw [hF]; exact evO (by decide)).trans e6_3
    have e7_4 : F4.eval (.tmp 7) = .pointer (some ⟨B, 0, none⟩) := by rw [hF]; exact evS (by rw [z3]; decide)
    have HF4 := Lib.hid hF
    clear hF e1_3 e2_3 e6_3
    refine tkT (i := 4) (oi := _) (v := .pointer (some ⟨B, 3, none⟩)) rfl (by kernel_rfl) (by kernel_rfl) (by kernel_rfl) (fun _ _ _ h => h) HS.out (wantedT rfl) (fun w _ => faT rfl e7_4 (by go_simp)) ?_
    intro F5 hF
    replace hF : F5 = F4.put (some 8) (.pointer (some ⟨B, 3, none⟩)) := hF
    have z5 : F5.tmps.size = 21 := by rw [hF]; simpa [Act.put] using z4
    have e1_5 := (show F5.eval (.tmp 1) = F4.eval (.tmp 1) by rw [hF]; exact evO (by decide)).trans e1_4
    have e2_5 := (show F5.eval (.tmp 2) = F4.eval (.tmp 2) by rw [hF]; exact evO (by decide)).trans e2_4
    have e6_5 := (show F5.eval (.tmp 6) = F4.eval (.tmp 6) by rw [hF]; exact evO (by decide)).trans e6_4
    have e8_5 : F5.eval (.tmp 8) = .pointer (some ⟨B, 3, none⟩) := by rw [hF]; exact evS (by rw [z4]; decide)
    have HF5 := Lib.hid hF
    clear hF e1_4 e2_4 e6_4 e7_4
    refine tkT (i := 5) (oi := _) (v := .string n.f3) rfl (by kernel_rfl) (by kernel_rfl) (by kernel_rfl) (fun _ _ _ h => h) HS.out (wantedT rfl) (fun w hs => by have c1 := hs 3 (.string n.f3) rfl; simp only [Nat.zero_add] at c1; exact ldT rfl e8_5 (by go_simp)) ?_
    intro F6 hF
    replace hF : F6 = F5.put (some 9) (.string n.f3) := hF
    have z6 : F6.tmps.size = 21 := by rw [hF]; simpa [Act.put] using z5
    have e1_6 := (show F6.eval (.tmp 1) = F5.eval (.tmp 1) by rw [hF]; exact evO (by decide)).trans e1_5
    have e2_6 := (show F6.eval (.tmp 2) = F5.eval (.tmp 2) by rw [hF]; exact evO (by decide)).trans e2_5
    have e6_6 := (show F6.eval (.tmp 6) = F5.eval (.tmp 6) by rw [hF]; exact evO (by decide)).trans e6_5
    have e9_6 : F6.eval (.tmp 9) = .string n.f3 := by rw [hF]; exact evS (by rw [z5]; decide)
    have HF6 := Lib.hid hF
    clear hF e1_5 e2_5 e6_5 e8_5
    refine tkT (i := 6) (oi := _) (v := .agg #[.int .i64 n.f1, .int .u64 0, .string n.f3]) rfl (by kernel_rfl) (by kernel_rfl) (by kernel_rfl) (fun _ _ _ h => h) HS.out (wantedT rfl) (fun w hs => bdT rfl (vals := #[(0, .int .i64 n.f1), (1, .int .u64 0), (2, .string n.f3)]) (by simp only [List.map_toArray, List.map_cons, List.map_nil, e6_6, e9_6] <;> rfl) (by kernel_rfl) w) ?_
    intro F7 hF
    replace hF : F7 = F6.put (some 10) (.agg #[.int .i64 n.f1, .int .u64 0, .string n.f3]) := hF
    have z7 : F7.tmps.size = 21 := by rw [hF]; simpa [Act.put] using z6
    have e1_7 := (show F7.eval (.tmp 1) = F6.eval (.tmp 1) by rw [hF]; exact evO (by decide)).trans e1_6
    have e2_7 := (show F7.eval (.tmp 2) = F6.eval (.tmp 2) by rw [hF]; exact evO (by decide)).trans e2_6
    have e10_7 : F7.eval (.tmp 10) = .agg #[.int .i64 n.f1, .int .u64 0, .string n.f3] := by rw [hF]; exact evS (by rw [z6]; decide)
    have HF7 := Lib.hid hF
    clear hF e1_6 e2_6 e6_6 e9_6
    refine tkT (i := 7) (oi := _) (v := .pointer (some ⟨B, 5, none⟩)) rfl (by kernel_rfl) (by kernel_rfl) (by kernel_rfl) (fun _ _ _ h => h) HS.out (wantedT rfl) (fun w _ => faT rfl e1_7 (by go_simp)) ?_
    intro F8 hF
    replace hF : F8 = F7.put (some 11) (.pointer (some ⟨B, 5, none⟩)) := hF
    have z8 : F8.tmps.size = 21 := by rw [hF]; simpa [Act.put] using z7
    have e1_8 := (show F8.eval (.tmp 1) = F7.eval (.tmp 1) by rw [hF]; exact evO (by decide)).trans e1_7
    have e2_8 := (show F8.eval (.tmp 2) = F7.eval (.tmp 2) by rw [hF]; exact evO (by decide)).trans e2_7
    have e10_8 := (show F8.eval (.tmp 10) = F7.eval (.tmp 10) by rw [hF]; exact evO (by decide)).trans e10_7
    have e11_8 : F8.eval (.tmp 11) = .pointer (some ⟨B, 5, none⟩) := by rw [hF]; exact evS (by rw [z7]; decide)
    have HF8 := Lib.hid hF
    clear hF e1_7 e2_7 e10_7
    refine tkT (i := 8) (oi := _) (v := .slice A ks.length c) rfl (by kernel_rfl) (by kernel_rfl) (by kernel_rfl) (fun _ _ _ h => h) HS.out (wantedT rfl) (fun w hs => by have c1 := hs 5 (.slice A ks.length c) rfl; simp only [Nat.zero_add] at c1; exact ldT rfl e11_8 (by go_simp)) ?_
    intro F9 hF
    replace hF : F9 = F8.put (some 12) (.slice A ks.length c) := hF
    have z9 : F9.tmps.size = 21 := by rw [hF]; simpa [Act.put] using z8
    have e1_9 := (show F9.eval (.tmp 1) = F8.eval (.tmp 1) by rw [hF]; exact evO (by decide)).trans e1_8
    have e2_9 := (show F9.eval (.tmp 2) = F8.eval (.tmp 2) by rw [hF]; exact evO (by decide)).trans e2_8
    have e10_9 := (show F9.eval (.tmp 10) = F8.eval (.tmp 10) by rw [hF]; exact evO (by decide)).trans e10_8
    have e12_9 : F9.eval (.tmp 12) = .slice A ks.length c := by rw [hF]; exact evS (by rw [z8]; decide)
    have HF9 := Lib.hid hF
    clear hF e1_8 e2_8 e10_8 e11_8
    refine tkT (i := 9) (oi := _) (v := .int .i64 (ks.length : Int)) rfl (by kernel_rfl) (by kernel_rfl) (by kernel_rfl) (fun _ _ _ h => h) HS.out (wantedT rfl) (fun w _ => lnT (e := 60) rfl e12_9 (by kernel_rfl) w) ?_
    intro F10 hF
    replace hF : F10 = F9.put (some 13) (.int .i64 (ks.length : Int)) := hF
    have z10 : F10.tmps.size = 21 := by rw [hF]; simpa [Act.put] using z9
    have e1_10 := (show F10.eval (.tmp 1) = F9.eval (.tmp 1) by rw [hF]; exact evO (by decide)).trans e1_9
    have e2_10 := (show F10.eval (.tmp 2) = F9.eval (.tmp 2) by rw [hF]; exact evO (by decide)).trans e2_9
    have e10_10 := (show F10.eval (.tmp 10) = F9.eval (.tmp 10) by rw [hF]; exact evO (by decide)).trans e10_9
    have e13_10 : F10.eval (.tmp 13) = .int .i64 (ks.length : Int) := by rw [hF]; exact evS (by rw [z9]; decide)
    have HF10 := Lib.hid hF
    clear hF e1_9 e2_9 e10_9 e12_9
    refine tkT (i := 10) (oi := _) (v := .bool true) rfl (by kernel_rfl) (by kernel_rfl) (by kernel_rfl) (fun _ _ _ h => h) HS.out (wantedT rfl) (fun w hs => boT rfl e13_10 rfl (by go_simp) (by go_simp)) ?_
    intro F11 hF
    replace hF : F11 = F10.put (some 14) (.bool true) := hF
    have z11 : F11.tmps.size = 21 := by rw [hF]; simpa [Act.put] using z10
    have e1_11 := (show F11.eval (.tmp 1) = F10.eval (.tmp 1) by rw [hF]; exact evO (by decide)).trans e1_10
    have e2_11 := (show F11.eval (.tmp 2) = F10.eval (.tmp 2) by rw [hF]; exact evO (by decide)).trans e2_10
    have e10_11 := (show F11.eval (.tmp 10) = F10.eval (.tmp 10) by rw [hF]; exact evO (by decide)).trans e10_10
    have e14_11 : F11.eval (.tmp 14) = .bool true := by rw [hF]; exact evS (by rw [z10]; decide)
    have HF11 := Lib.hid hF
    clear hF e1_10 e2_10 e10_10 e13_10
    refine tkT (i := 11) (oi := _) (v := .bool true) rfl (by kernel_rfl) (by kernel_rfl) (by kernel_rfl) (fun _ _ _ h => h) HS.out (wantedT rfl) (fun w _ => mvT rfl e14_11 w) ?_
    intro F12 hF
    replace hF : F12 = F11.put (some 15) (.bool true) := hF
    have z12 : F12.tmps.size = 21 := by rw [hF]; simpa [Act.put] using z11
    have e1_12 := (show F12.eval (.tmp 1) = F11.eval (.tmp 1) by rw [hF]; exact evO (by decide)).trans e1_11
    have e2_12 := (show F12.eval (.tmp 2) = F11.eval (.tmp 2) by rw [hF]; exact evO (by decide)).trans e2_11
    have e10_12 := (show F12.eval (.tmp 10) = F11.eval (.tmp 10) by rw [hF]; exact evO (by decide)).trans e10_11
    have e15_12 : F12.eval (.tmp 15) = .bool true := by rw [hF]; exact evS (by rw [z11]; decide)
    have HF12 := Lib.hid hF
    clear hF e1_11 e2_11 e10_11 e14_11
    refine tkT (i := 12) (oi := _) (v := .pointer (some ⟨B, 0, none⟩)) rfl (by kernel_rfl) (by kernel_rfl) (by kernel_rfl) (fun _ _ _ h => h) HS.out (by rw [wantedG (d := 15) rfl rfl e15_12 (by rw [z12]; decide)]; rfl) (fun w _ => faT rfl e1_12 (by go_simp)) ?_
    intro F13 hF
    replace hF : F13 = F12.put (some 16) (.pointer (some ⟨B, 0, none⟩)) := hF
    have z13 : F13.tmps.size = 21 := by rw [hF]; simpa [Act.put] using z12
    have e2_13 := (show F13.eval (.tmp 2) = F12.eval (.tmp 2) by rw [hF]; exact evO (by decide)).trans e2_12
    have e10_13 := (show F13.eval (.tmp 10) = F12.eval (.tmp 10) by rw [hF]; exact evO (by decide)).trans e10_12
    have e15_13 := (show F13.eval (.tmp 15) = F12.eval (.tmp 15) by rw [hF]; exact evO (by decide)).trans e15_12
    have e16_13 : F13.eval (.tmp 16) = .pointer (some ⟨B, 0, none⟩) := by rw [hF]; exact evS (by rw [z12]; decide)
    have HF13 := Lib.hid hF
    clear hF e1_12 e2_12 e10_12 e15_12
    refine tkT (i := 13) (oi := _) (v := .pointer (some ⟨B, 2, none⟩)) rfl (by kernel_rfl) (by kernel_rfl) (by kernel_rfl) (fun _ _ _ h => h) HS.out (by rw [wantedG (d := 15) rfl rfl e15_13 (by rw [z13]; decide)]; rfl) (fun w _ => faT rfl e16_13 (by go_simp)) ?_
    intro F14 hF
    replace hF : F14 = F13.put (some 17) (.pointer (some ⟨B, 2, none⟩)) := hF
    have z14 : F14.tmps.size = 21 := by rw [hF]; simpa [Act.put] using z13
    have e2_14 := (show F14.eval (.tmp 2) = F13.eval (.tmp 2) by rw [hF]; exact evO (by decide)).trans e2_13
    have e10_14 := (show F14.eval (.tmp 10) = F13.eval (.tmp 10) by rw [hF]; exact evO (by decide)).trans e10_13
    have e15_14 := (show F14.eval (.tmp 15) = F13.eval (.tmp 15) by rw [hF]; exact evO (by decide)).trans e15_13
    have e17_14 : F14.eval (.tmp 17) = .pointer (some ⟨B, 2, none⟩) := by rw [hF]; exact evS (by rw [z13]; decide)
    have HF14 := Lib.hid hF
    clear hF e2_13 e10_13 e15_13 e16_13
    refine tkT (i := 14) (oi := _) (v := .int .u64 n.f2) rfl (by kernel_rfl) (by kernel_rfl) (by kernel_rfl) (fun _ _ _ h => h) HS.out (by rw [wantedG (d := 15) rfl rfl e15_14 (by rw [z14]; decide)]; rfl) (fun w hs => by have c1 := hs 2 (.int .u64 n.f2) rfl; simp only [Nat.zero_add] at c1; exact ldT rfl e17_14 (by go_simp)) ?_
    intro F15 hF
    replace hF : F15 = F14.put (some 18) (.int .u64 n.f2) := hF
    have z15 : F15.tmps.size = 21 := by rw [hF]; simpa [Act.put] using z14
    have e2_15 := (show F15.eval (.tmp 2) = F14.eval (.tmp 2) by rw [hF]; exact evO (by decide)).trans e2_14
    have e10_15 := (show F15.eval (.tmp 10) = F14.eval (.tmp 10) by rw [hF]; exact evO (by decide)).trans e10_14
    have e15_15 := (show F15.eval (.tmp 15) = F14.eval (.tmp 15) by rw [hF]; exact evO (by decide)).trans e15_14
    have e18_15 : F15.eval (.tmp 18) = .int .u64 n.f2 := by rw [hF]; exact evS (by rw [z14]; decide)
    have HF15 := Lib.hid hF
    clear hF e2_14 e10_14 e15_14 e17_14
    refine aloneT (i := 15) (oi := _) rfl (by kernel_rfl) (by rw [wantedG (d := 15) rfl rfl e15_15 (by rw [z15]; decide)]; rfl) ?_
    refine wpCall (clT (f := 22) (args := #[.int .u64 n.f2]) rfl (by simp only [List.map_toArray, List.map_cons, List.map_nil, e18_15] <;> rfl) (fun args w => by kernel_rfl)) (fun v w' => v = .bool (fbits n.f2.toNat == n.f2) ∧ w' = w1.drew) ((Right_any _ _).mono (by rintro e w' ⟨rfl, rfl⟩; exact ⟨_, rfl, rfl, rfl⟩)) ?_
    rintro v w' ⟨rfl, rfl⟩
    refine ⟨HS.out, genT fun F16 hF => ?_⟩
    have HS := Lib.hid (HS.out)
    replace hF : F16 = F15.put (some 19) (.bool (fbits n.f2.toNat == n.f2)) := hF
    have z16 : F16.tmps.size = 21 := by rw [hF]; simpa [Act.put] using z15
    have e2_16 := (show F16.eval (.tmp 2) = F15.eval (.tmp 2) by rw [hF]; exact evO (by decide)).trans e2_15
    have e10_16 := (show F16.eval (.tmp 10) = F15.eval (.tmp 10) by rw [hF]; exact evO (by decide)).trans e10_15
    have e15_16 := (show F16.eval (.tmp 15) = F15.eval (.tmp 15) by rw [hF]; exact evO (by decide)).trans e15_15
    have e19_16 : F16.eval (.tmp 19) = .bool (fbits n.f2.toNat == n.f2) := by rw [hF]; exact evS (by rw [z15]; decide)
    have HF16 := Lib.hid hF
    clear hF e2_15 e10_15 e15_15 e18_15
    refine tkT (i := 16) (oi := _) (v := .bool (fbits n.f2.toNat == n.f2)) rfl (by kernel_rfl) (by kernel_rfl) (by kernel_rfl) (fun _ _ _ h => h) HS.out (wantedT rfl) (fun w hs => pkT rfl e15_16 e19_16 rfl w) ?_
    intro F17 hF
    replace hF : F17 = F16.put (some 20) (.bool (fbits n.f2.toNat == n.f2)) := hF
    have z17 : F17.tmps.size = 21 := by rw [hF]; simpa [Act.put] using z16
    have e2_17 := (show F17.eval (.tmp 2) = F16.eval (.tmp 2) by rw [hF]; exact evO (by decide)).trans e2_16
    have e10_17 := (show F17.eval (.tmp 10) = F16.eval (.tmp 10) by rw [hF]; exact evO (by decide)).trans e10_16
    have e20_17 : F17.eval (.tmp 20) = .bool (fbits n.f2.toNat == n.f2) := by rw [hF]; exact evS (by rw [z16]; decide)
    have HF17 := Lib.hid hF
    clear hF e2_16 e10_16 e15_16 e19_16
    refine aloneT (i := 17) (oi := _) rfl (by kernel_rfl) (wantedT rfl) ?_
    refine wpStM rfl e2_17 e10_17 (cells := [.int .i64 n.f1, .int .u64 0, .string n.f3]) (t := 96) (c := [.int .i64 0, .int .u64 0, .string ⟨#[]⟩]) HGG (by show 3 ≤ 3; decide) (by kernel_rfl) (by intro u hu; simp only [List.mem_cons, List.not_mem_nil, or_false] at hu; rcases hu with rfl | rfl | rfl <;> rfl) ?_
    intro w3 og3 hz3 hb3
    refine ⟨rangeOg HS.out og3 (by omega), genT fun F18 hF => ?_⟩
    have HS := Lib.hid (rangeOg HS.out og3 (by omega))
    replace hF : F18 = F17.put none (undef) := hF
    have z18 : F18.tmps.size = 21 := by rw [hF]; simpa [Act.put] using z17
    have e20_18 := (show F18.eval (.tmp 20) = F17.eval (.tmp 20) by rw [hF]; exact rfl).trans e20_17
    have HF18 := Lib.hid hF
    clear hF e2_17 e10_17 e20_17
    refine tkT (i := 18) (oi := _) (v := .bool (fbits n.f2.toNat == n.f2)) rfl (by kernel_rfl) (by kernel_rfl) (by kernel_rfl) (fun _ _ _ h => h) HS.out (wantedT rfl) (fun w _ => asT rfl e20_18 w) ?_
    intro F19 hF
    replace hF : F19 = F18.put (some 3) (.bool (fbits n.f2.toNat == n.f2)) := hF
    have z19 : F19.tmps.size = 21 := by rw [hF]; simpa [Act.put] using z18
    have HF19 := Lib.hid hF
    clear hF e20_18
    refine wpAnyH_done (by kernel_rfl) ?_ _
    rw [HF19.out, HF18.out, HF17.out, HF16.out, HF15.out, HF14.out, HF13.out, HF12.out, HF11.out, HF10.out, HF9.out, HF8.out, HF7.out, HF6.out, HF5.out, HF4.out, HF3.out, HF2.out, HF1.out, HA.out]
    simp only [Act.put, List.setIfInBounds_toArray, List.set_cons_succ, List.set_cons_zero]
    clear HF19 HF18 HF17 HF16 HF15 HF14 HF13 HF12 HF11 HF10 HF9 HF8 HF7 HF6 HF5 HF4 HF3 HF2 HF1 HA z19 z18 z17 z16 z15 z14 z13 z12 z11 z10 z9 z8 z7 z6 z5 z4 z3 z2 z1 z0 
    try go_wp2
    refine bodyPost_ret (v := .tuple #[.agg #[.int .i64 n.f1, .int .u64 0, .string n.f3], .bool (fbits n.f2.toNat == n.f2)]) (results_ct (cs := [.int .i64 n.f1, .int .u64 0, .string n.f3]) rfl _ _ G (.struct rs) rfl (by first | exact hb3 | exact HB3.out) _ rfl HRS.out rfl (by kernel_rfl)) rfl ?_
    exact ⟨by first | rfl | simp_all, og3.qt HQ0.out.drew (by have := HBW.out; have := HBB.out; omega)⟩
  · have g0 : ((ks.length : Int) == 0) = false := by rw [beq_eq_false_iff_ne]; omega
    rw [show (decide (ks.length = 0)) = false from decide_eq_false h0]
    rw [Bool.false_and]
    clear h0
    go_enter Try.func77, Try.ntmps77
    go_wp2
    have hb0 : Blk ((w.alloc (.cells cs.toArray 60)).alloc (.cells #[.int .i64 0, .int .u64 0, .string ⟨#[]⟩] 96)) w.heap.size 60 cs := (show Blk (w.alloc (.cells cs.toArray 60)) _ _ cs from heap_alloc_new w _).alloc _
    have hg0 : Blk ((w.alloc (.cells cs.toArray 60)).alloc (.cells #[.int .i64 0, .int .u64 0, .string ⟨#[]⟩] 96)) (w.heap.size + 1) 96 [.int .i64 0, .int .u64 0, .string ⟨#[]⟩] := by
      have h := heap_alloc_new (w.alloc (.cells cs.toArray 60)) (.cells #[.int .i64 0, .int .u64 0, .string ⟨#[]⟩] 96)
      rw [show (w.alloc (.cells cs.toArray 60)).heap.size = w.heap.size + 1 from by simp] at h
      exact h
    have hq0 : Qt w ((w.alloc (.cells cs.toArray 60)).alloc (.cells #[.int .i64 0, .int .u64 0, .string ⟨#[]⟩] 96)) := ((Qt.refl w).alloc _).alloc _
    generalize ((w.alloc (.cells cs.toArray 60)).alloc (.cells #[.int .i64 0, .int .u64 0, .string ⟨#[]⟩] 96)) = w1 at hb0 hg0 hq0 ⊢
    rw [← hB] at hb0 hg0 ⊢
    obtain ⟨G, hG⟩ : ∃ G, G = B + 1 := ⟨_, rfl⟩
    rw [← hG] at hg0 ⊢
    have hBG : B < G := by omega
    have hBw : w.heap.size ≤ B := by omega
    have HQ0 := Lib.hid hq0
    have HGG := hg0
    have HRG := Lib.hid (show w1.rangeAt B 0 (ndc n ++ [.slice A ks.length c, av]) from hb0.range 0 _ (by rw [HCS.out]; rfl))
    have HBW := Lib.hid hBw
    have HBB := Lib.hid hBG
    clear hb0 hq0 hB hG hg0
    refine wp_region_held (S := (fun u => u.rangeAt B 0 (ndc n ++ [.slice A ks.length c, av]))) (by kernel_rfl) ?_
    change wpAnyH _ _ _ _ _ _ _ _ (World.drew _)
    refine genT fun F0 hA => ?_
    have z0 : F0.tmps.size = 21 := by rw [hA]; rfl
    have e1_0 : F0.eval (.tmp 1) = .pointer (some ⟨B, 0, none⟩) := by rw [hA]; rfl
    have e2_0 : F0.eval (.tmp 2) = .pointer (some ⟨G, 0, none⟩) := by rw [hA]; rfl
    have HA := Lib.hid hA
    clear hA
    have HS := Lib.hid (show World.rangeAt (World.drew _) _ _ _ from HRG.out)
    refine tkT (i := 0) (oi := _) (v := .pointer (some ⟨B, 0, none⟩)) rfl (by kernel_rfl) (by kernel_rfl) (by kernel_rfl) (fun _ _ _ h => h) HS.out (wantedT rfl) (fun w _ => faT rfl e1_0 (by go_simp)) ?_
    intro F1 hF
    replace hF : F1 = F0.put (some 4) (.pointer (some ⟨B, 0, none⟩)) := hF
    have z1 : F1.tmps.size = 21 := by rw [hF]; simpa [Act.put] using z0
    have e1_1 := (show F1.eval (.tmp 1) = F0.eval (.tmp 1) by rw [hF]; exact evO (by decide)).trans e1_0
    have e2_1 := (show F1.eval (.tmp 2) = F0.eval (.tmp 2) by rw [hF]; exact evO (by decide)).trans e2_0
    have e4_1 : F1.eval (.tmp 4) = .pointer (some ⟨B, 0, none⟩) := by rw [hF]; exact evS (by rw [z0]; decide)
    have HF1 := Lib.hid hF
    clear hF e1_0 e2_0
    refine tkT (i := 1) (oi := _) (v := .pointer (some ⟨B, 1, none⟩)) rfl (by kernel_rfl) (by kernel_rfl) (by kernel_rfl) (fun _ _ _ h => h) HS.out (wantedT rfl) (fun w _ => faT rfl e4_1 (by go_simp)) ?_
    intro F2 hF
    replace hF : F2 = F1.put (some 5) (.pointer (some ⟨B, 1, none⟩)) := hF
    have z2 : F2.tmps.size = 21 := by rw [hF]; simpa [Act.put] using z1
    have e1_2 := (show F2.eval (.tmp 1) = F1.eval (.tmp 1) by rw [hF]; exact evO (by decide)).trans e1_1
    have e2_2 := (show F2.eval (.tmp 2) = F1.eval (.tmp 2) by rw [hF]; exact evO (by decide)).trans e2_1
    have e5_2 : F2.eval (.tmp 5) = .pointer (some ⟨B, 1, none⟩) := by rw [hF]; exact evS (by rw [z1]; decide)
    have HF2 := Lib.hid hF
    clear hF e1_1 e2_1 e4_1
    refine tkT (i := 2) (oi := _) (v := .int .i64 n.f1) rfl (by kernel_rfl) (by kernel_rfl) (by kernel_rfl) (fun _ _ _ h => h) HS.out (wantedT rfl) (fun w hs => by have c1 := hs 1 (.int .i64 n.f1) rfl; simp only [Nat.zero_add] at c1; exact ldT rfl e5_2 (by go_simp)) ?_
    intro F3 hF
    replace hF : F3 = F2.put (some 6) (.int .i64 n.f1) := hF
    have z3 : F3.tmps.size = 21 := by rw [hF]; simpa [Act.put] using z2
    have e1_3 := (show F3.eval (.tmp 1) = F2.eval (.tmp 1) by rw [hF]; exact evO (by decide)).trans e1_2
    have e2_3 := (show F3.eval (.tmp 2) = F2.eval (.tmp 2) by rw [hF]; exact evO (by decide)).trans e2_2
    have e6_3 : F3.eval (.tmp 6) = .int .i64 n.f1 := by rw [hF]; exact evS (by rw [z2]; decide)
    have HF3 := Lib.hid hF
    clear hF e1_2 e2_2 e5_2
    refine tkT (i := 3) (oi := _) (v := .pointer (some ⟨B, 0, none⟩)) rfl (by kernel_rfl) (by kernel_rfl) (by kernel_rfl) (fun _ _ _ h => h) HS.out (wantedT rfl) (fun w _ => faT rfl e1_3 (by go_simp)) ?_
    intro F4 hF
    replace hF : F4 = F3.put (some 7) (.pointer (some ⟨B, 0, none⟩)) := hF
    have z4 : F4.tmps.size = 21 := by rw [hF]; simpa [Act.put] using z3
    have e1_4 := (show F4.eval (.tmp 1) = F3.eval (.tmp 1) by rw [hF]; exact evO (by decide)).trans e1_3
    have e2_4 := (show F4.eval (.tmp 2) = F3.eval (.tmp 2) by rw [hF]; exact evO (by decide)).trans e2_3
    have e6_4 := (show F4.eval (.tmp 6) = F3.eval (.tmp 6) by rw [hF]; exact evO (by decide)).trans e6_3
    have e7_4 : F4.eval (.tmp 7) = .pointer (some ⟨B, 0, none⟩) := by rw [hF]; exact evS (by rw [z3]; decide)
    have HF4 := Lib.hid hF
    clear hF e1_3 e2_3 e6_3
    refine tkT (i := 4) (oi := _) (v := .pointer (some ⟨B, 3, none⟩)) rfl (by kernel_rfl) (by kernel_rfl) (by kernel_rfl) (fun _ _ _ h => h) HS.out (wantedT rfl) (fun w _ => faT rfl e7_4 (by go_simp)) ?_
    intro F5 hF
    replace hF : F5 = F4.put (some 8) (.pointer (some ⟨B, 3, none⟩)) := hF
    have z5 : F5.tmps.size = 21 := by rw [hF]; simpa [Act.put] using z4
    have e1_5 := (show F5.eval (.tmp 1) = F4.eval (.tmp 1) by rw [hF]; exact evO (by decide)).trans e1_4
    have e2_5 := (show F5.eval (.tmp 2) = F4.eval (.tmp 2) by rw [hF]; exact evO (by decide)).trans e2_4
    have e6_5 := (show F5.eval (.tmp 6) = F4.eval (.tmp 6) by rw [hF]; exact evO (by decide)).trans e6_4
    have e8_5 : F5.eval (.tmp 8) = .pointer (some ⟨B, 3, none⟩) := by rw [hF]; exact evS (by rw [z4]; decide)
    have HF5 := Lib.hid hF
    clear hF e1_4 e2_4 e6_4 e7_4
    refine tkT (i := 5) (oi := _) (v := .string n.f3) rfl (by kernel_rfl) (by kernel_rfl) (by kernel_rfl) (fun _ _ _ h => h) HS.out (wantedT rfl) (fun w hs => by have c1 := hs 3 (.string n.f3) rfl; simp only [Nat.zero_add] at c1; exact ldT rfl e8_5 (by go_simp)) ?_
    intro F6 hF
    replace hF : F6 = F5.put (some 9) (.string n.f3) := hF
    have z6 : F6.tmps.size = 21 := by rw [hF]; simpa [Act.put] using z5
    have e1_6 := (show F6.eval (.tmp 1) = F5.eval (.tmp 1) by rw [hF]; exact evO (by decide)).trans e1_5
    have e2_6 := (show F6.eval (.tmp 2) = F5.eval (.tmp 2) by rw [hF]; exact evO (by decide)).trans e2_5
    have e6_6 := (show F6.eval (.tmp 6) = F5.eval (.tmp 6) by rw [hF]; exact evO (by decide)).trans e6_5
    have e9_6 : F6.eval (.tmp 9) = .string n.f3 := by rw [hF]; exact evS (by rw [z5]; decide)
    have HF6 := Lib.hid hF
    clear hF e1_5 e2_5 e6_5 e8_5
    refine tkT (i := 6) (oi := _) (v := .agg #[.int .i64 n.f1, .int .u64 0, .string n.f3]) rfl (by kernel_rfl) (by kernel_rfl) (by kernel_rfl) (fun _ _ _ h => h) HS.out (wantedT rfl) (fun w hs => bdT rfl (vals := #[(0, .int .i64 n.f1), (1, .int .u64 0), (2, .string n.f3)]) (by simp only [List.map_toArray, List.map_cons, List.map_nil, e6_6, e9_6] <;> rfl) (by kernel_rfl) w) ?_
    intro F7 hF
    replace hF : F7 = F6.put (some 10) (.agg #[.int .i64 n.f1, .int .u64 0, .string n.f3]) := hF
    have z7 : F7.tmps.size = 21 := by rw [hF]; simpa [Act.put] using z6
    have e1_7 := (show F7.eval (.tmp 1) = F6.eval (.tmp 1) by rw [hF]; exact evO (by decide)).trans e1_6
    have e2_7 := (show F7.eval (.tmp 2) = F6.eval (.tmp 2) by rw [hF]; exact evO (by decide)).trans e2_6
    have e10_7 : F7.eval (.tmp 10) = .agg #[.int .i64 n.f1, .int .u64 0, .string n.f3] := by rw [hF]; exact evS (by rw [z6]; decide)
    have HF7 := Lib.hid hF
    clear hF e1_6 e2_6 e6_6 e9_6
    refine tkT (i := 7) (oi := _) (v := .pointer (some ⟨B, 5, none⟩)) rfl (by kernel_rfl) (by kernel_rfl) (by kernel_rfl) (fun _ _ _ h => h) HS.out (wantedT rfl) (fun w _ => faT rfl e1_7 (by go_simp)) ?_
    intro F8 hF
    replace hF : F8 = F7.put (some 11) (.pointer (some ⟨B, 5, none⟩)) := hF
    have z8 : F8.tmps.size = 21 := by rw [hF]; simpa [Act.put] using z7
    have e2_8 := (show F8.eval (.tmp 2) = F7.eval (.tmp 2) by rw [hF]; exact evO (by decide)).trans e2_7
    have e10_8 := (show F8.eval (.tmp 10) = F7.eval (.tmp 10) by rw [hF]; exact evO (by decide)).trans e10_7
    have e11_8 : F8.eval (.tmp 11) = .pointer (some ⟨B, 5, none⟩) := by rw [hF]; exact evS (by rw [z7]; decide)
    have HF8 := Lib.hid hF
    clear hF e1_7 e2_7 e10_7
    refine tkT (i := 8) (oi := _) (v := .slice A ks.length c) rfl (by kernel_rfl) (by kernel_rfl) (by kernel_rfl) (fun _ _ _ h => h) HS.out (wantedT rfl) (fun w hs => by have c1 := hs 5 (.slice A ks.length c) rfl; simp only [Nat.zero_add] at c1; exact ldT rfl e11_8 (by go_simp)) ?_
    intro F9 hF
    replace hF : F9 = F8.put (some 12) (.slice A ks.length c) := hF
    have z9 : F9.tmps.size = 21 := by rw [hF]; simpa [Act.put] using z8
    have e2_9 := (show F9.eval (.tmp 2) = F8.eval (.tmp 2) by rw [hF]; exact evO (by decide)).trans e2_8
    have e10_9 := (show F9.eval (.tmp 10) = F8.eval (.tmp 10) by rw [hF]; exact evO (by decide)).trans e10_8
    have e12_9 : F9.eval (.tmp 12) = .slice A ks.length c := by rw [hF]; exact evS (by rw [z8]; decide)
    have HF9 := Lib.hid hF
    clear hF e2_8 e10_8 e11_8
    refine tkT (i := 9) (oi := _) (v := .int .i64 (ks.length : Int)) rfl (by kernel_rfl) (by kernel_rfl) (by kernel_rfl) (fun _ _ _ h => h) HS.out (wantedT rfl) (fun w _ => lnT (e := 60) rfl e12_9 (by kernel_rfl) w) ?_
    intro F10 hF
    replace hF : F10 = F9.put (some 13) (.int .i64 (ks.length : Int)) := hF
    have z10 : F10.tmps.size = 21 := by rw [hF]; simpa [Act.put] using z9
    have e2_10 := (show F10.eval (.tmp 2) = F9.eval (.tmp 2) by rw [hF]; exact evO (by decide)).trans e2_9
    have e10_10 := (show F10.eval (.tmp 10) = F9.eval (.tmp 10) by rw [hF]; exact evO (by decide)).trans e10_9
    have e13_10 : F10.eval (.tmp 13) = .int .i64 (ks.length : Int) := by rw [hF]; exact evS (by rw [z9]; decide)
    have HF10 := Lib.hid hF
    clear hF e2_9 e10_9 e12_9
    refine tkT (i := 10) (oi := _) (v := .bool false) rfl (by kernel_rfl) (by kernel_rfl) (by kernel_rfl) (fun _ _ _ h => h) HS.out (wantedT rfl) (fun w hs => boT rfl e13_10 rfl (by go_simp) (by go_simp)) ?_
    intro F11 hF
    replace hF : F11 = F10.put (some 14) (.bool false) := hF
    have z11 : F11.tmps.size = 21 := by rw [hF]; simpa [Act.put] using z10
    have e2_11 := (show F11.eval (.tmp 2) = F10.eval (.tmp 2) by rw [hF]; exact evO (by decide)).trans e2_10
    have e10_11 := (show F11.eval (.tmp 10) = F10.eval (.tmp 10) by rw [hF]; exact evO (by decide)).trans e10_10
    have e14_11 : F11.eval (.tmp 14) = .bool false := by rw [hF]; exact evS (by rw [z10]; decide)
    have HF11 := Lib.hid hF
    clear hF e2_10 e10_10 e13_10
    refine tkT (i := 11) (oi := _) (v := .bool false) rfl (by kernel_rfl) (by kernel_rfl) (by kernel_rfl) (fun _ _ _ h => h) HS.out (wantedT rfl) (fun w _ => mvT rfl e14_11 w) ?_
    intro F12 hF
    replace hF : F12 = F11.put (some 15) (.bool false) := hF
    have z12 : F12.tmps.size = 21 := by rw [hF]; simpa [Act.put] using z11
    have e2_12 := (show F12.eval (.tmp 2) = F11.eval (.tmp 2) by rw [hF]; exact evO (by decide)).trans e2_11
    have e10_12 := (show F12.eval (.tmp 10) = F11.eval (.tmp 10) by rw [hF]; exact evO (by decide)).trans e10_11
    have e15_12 : F12.eval (.tmp 15) = .bool false := by rw [hF]; exact evS (by rw [z11]; decide)
    have HF12 := Lib.hid hF
    clear hF e2_11 e10_11 e14_11
    refine skT (i := 12) (oi := _) rfl (by kernel_rfl) (by kernel_rfl) (by kernel_rfl) (fun _ _ _ h => h) HS.out (by rw [wantedG (d := 15) rfl rfl e15_12 (by rw [z12]; decide)]; rfl) ?_
    intro F13 hF
    replace hF : F13 = F12.put (some 16) (undef) := hF
    have z13 : F13.tmps.size = 21 := by rw [hF]; simpa [Act.put] using z12
    have e2_13 := (show F13.eval (.tmp 2) = F12.eval (.tmp 2) by rw [hF]; exact evO (by decide)).trans e2_12
    have e10_13 := (show F13.eval (.tmp 10) = F12.eval (.tmp 10) by rw [hF]; exact evO (by decide)).trans e10_12
    have e15_13 := (show F13.eval (.tmp 15) = F12.eval (.tmp 15) by rw [hF]; exact evO (by decide)).trans e15_12
    have HF13 := Lib.hid hF
    clear hF e2_12 e10_12 e15_12
    refine skT (i := 13) (oi := _) rfl (by kernel_rfl) (by kernel_rfl) (by kernel_rfl) (fun _ _ _ h => h) HS.out (by rw [wantedG (d := 15) rfl rfl e15_13 (by rw [z13]; decide)]; rfl) ?_
    intro F14 hF
    replace hF : F14 = F13.put (some 17) (undef) := hF
    have z14 : F14.tmps.size = 21 := by rw [hF]; simpa [Act.put] using z13
    have e2_14 := (show F14.eval (.tmp 2) = F13.eval (.tmp 2) by rw [hF]; exact evO (by decide)).trans e2_13
    have e10_14 := (show F14.eval (.tmp 10) = F13.eval (.tmp 10) by rw [hF]; exact evO (by decide)).trans e10_13
    have e15_14 := (show F14.eval (.tmp 15) = F13.eval (.tmp 15) by rw [hF]; exact evO (by decide)).trans e15_13
    have HF14 := Lib.hid hF
    clear hF e2_13 e10_13 e15_13
    refine skT (i := 14) (oi := _) rfl (by kernel_rfl) (by kernel_rfl) (by kernel_rfl) (fun _ _ _ h => h) HS.out (by rw [wantedG (d := 15) rfl rfl e15_14 (by rw [z14]; decide)]; rfl) ?_
    intro F15 hF
    replace hF : F15 = F14.put (some 18) (undef) := hF
    have z15 : F15.tmps.size = 21 := by rw [hF]; simpa [Act.put] using z14
    have e2_15 := (show F15.eval (.tmp 2) = F14.eval (.tmp 2) by rw [hF]; exact evO (by decide)).trans e2_14
    have e10_15 := (show F15.eval (.tmp 10) = F14.eval (.tmp 10) by rw [hF]; exact evO (by decide)).trans e10_14
    have e15_15 := (show F15.eval (.tmp 15) = F14.eval (.tmp 15) by rw [hF]; exact evO (by decide)).trans e15_14
    have HF15 := Lib.hid hF
    clear hF e2_14 e10_14 e15_14
    refine skT (i := 15) (oi := _) rfl (by kernel_rfl) (by kernel_rfl) (by kernel_rfl) (fun _ _ _ h => h) HS.out (by rw [wantedG (d := 15) rfl rfl e15_15 (by rw [z15]; decide)]; rfl) ?_
    intro F16 hF
    replace hF : F16 = F15.put (some 19) (undef) := hF
    have z16 : F16.tmps.size = 21 := by rw [hF]; simpa [Act.put] using z15
    have e2_16 := (show F16.eval (.tmp 2) = F15.eval (.tmp 2) by rw [hF]; exact evO (by decide)).trans e2_15
    have e10_16 := (show F16.eval (.tmp 10) = F15.eval (.tmp 10) by rw [hF]; exact evO (by decide)).trans e10_15
    have e15_16 := (show F16.eval (.tmp 15) = F15.eval (.tmp 15) by rw [hF]; exact evO (by decide)).trans e15_15
    have e19_16 : F16.eval (.tmp 19) = undef := by rw [hF]; exact evS (by rw [z15]; decide)
    have HF16 := Lib.hid hF
    clear hF e2_15 e10_15 e15_15
    refine tkT (i := 16) (oi := _) (v := .bool false) rfl (by kernel_rfl) (by kernel_rfl) (by kernel_rfl) (fun _ _ _ h => h) HS.out (wantedT rfl) (fun w hs => pkT (vy := .bool false) rfl e15_16 e19_16 rfl w) ?_
    intro F17 hF
    replace hF : F17 = F16.put (some 20) (.bool false) := hF
    have z17 : F17.tmps.size = 21 := by rw [hF]; simpa [Act.put] using z16
    have e2_17 := (show F17.eval (.tmp 2) = F16.eval (.tmp 2) by rw [hF]; exact evO (by decide)).trans e2_16
    have e10_17 := (show F17.eval (.tmp 10) = F16.eval (.tmp 10) by rw [hF]; exact evO (by decide)).trans e10_16
    have e20_17 : F17.eval (.tmp 20) = .bool false := by rw [hF]; exact evS (by rw [z16]; decide)
    have HF17 := Lib.hid hF
    clear hF e2_16 e10_16 e15_16 e19_16
    refine aloneT (i := 17) (oi := _) rfl (by kernel_rfl) (wantedT rfl) ?_
    refine wpStM rfl e2_17 e10_17 (cells := [.int .i64 n.f1, .int .u64 0, .string n.f3]) (t := 96) (c := [.int .i64 0, .int .u64 0, .string ⟨#[]⟩]) HGG (by show 3 ≤ 3; decide) (by kernel_rfl) (by intro u hu; simp only [List.mem_cons, List.not_mem_nil, or_false] at hu; rcases hu with rfl | rfl | rfl <;> rfl) ?_
    intro w3 og3 hz3 hb3
    refine ⟨rangeOg HS.out og3 (by omega), genT fun F18 hF => ?_⟩
    have HS := Lib.hid (rangeOg HS.out og3 (by omega))
    replace hF : F18 = F17.put none (undef) := hF
    have z18 : F18.tmps.size = 21 := by rw [hF]; simpa [Act.put] using z17
    have e20_18 := (show F18.eval (.tmp 20) = F17.eval (.tmp 20) by rw [hF]; exact rfl).trans e20_17
    have HF18 := Lib.hid hF
    clear hF e2_17 e10_17 e20_17
    refine tkT (i := 18) (oi := _) (v := .bool false) rfl (by kernel_rfl) (by kernel_rfl) (by kernel_rfl) (fun _ _ _ h => h) HS.out (wantedT rfl) (fun w _ => asT rfl e20_18 w) ?_
    intro F19 hF
    replace hF : F19 = F18.put (some 3) (.bool false) := hF
    have z19 : F19.tmps.size = 21 := by rw [hF]; simpa [Act.put] using z18
    have HF19 := Lib.hid hF
    clear hF e20_18
    refine wpAnyH_done (by kernel_rfl) ?_ _
    rw [HF19.out, HF18.out, HF17.out, HF16.out, HF15.out, HF14.out, HF13.out, HF12.out, HF11.out, HF10.out, HF9.out, HF8.out, HF7.out, HF6.out, HF5.out, HF4.out, HF3.out, HF2.out, HF1.out, HA.out]
    simp only [Act.put, List.setIfInBounds_toArray, List.set_cons_succ, List.set_cons_zero]
    clear HF19 HF18 HF17 HF16 HF15 HF14 HF13 HF12 HF11 HF10 HF9 HF8 HF7 HF6 HF5 HF4 HF3 HF2 HF1 HA z19 z18 z17 z16 z15 z14 z13 z12 z11 z10 z9 z8 z7 z6 z5 z4 z3 z2 z1 z0 
    try go_wp2
    refine bodyPost_ret (v := .tuple #[.agg #[.int .i64 n.f1, .int .u64 0, .string n.f3], .bool (false)]) (results_ct (cs := [.int .i64 n.f1, .int .u64 0, .string n.f3]) rfl _ _ G (.struct rs) rfl (by first | exact hb3 | exact HB3.out) _ rfl HRS.out rfl (by kernel_rfl)) rfl ?_
    exact ⟨by first | rfl | simp_all, og3.qt HQ0.out.drew (by have := HBW.out; have := HBB.out; omega)⟩

set_option maxRecDepth 100000 in
set_option maxHeartbeats 1000000 in
theorem kind5_any (n : Nd) (ks : List Tr) (cs : List Value) (ok : Nat → Prop) (w : World) (hm : (Tr.mk n ks).flat.length ≤ 1000000) (hbr : Br w ok cs (.mk n ks)) :
    Calls Try.prog 79 #[.agg cs.toArray] w fun e w' => e = .returned (.tuple #[.agg #[.int .i64 0, .int .u64 n.f2, .string n.f3], .bool (decide (0 ≤ n.f1) && decide (n.f1 ≤ 2147483647))]) ∧ Qt w w' := by
  obtain ⟨A, c, avA, avc, cf, hcs, h7, h1, h5, hc, hK, _⟩ := hbr.parts
  obtain ⟨rs, hrs⟩ : ∃ fs, Try.prog.underlying 96 = some (.struct fs) := ⟨_, Try.underlying96⟩
  obtain ⟨av, hav⟩ : ∃ av : Value, av = .slice avA (Tr.mk n ks).flat.length avc := ⟨_, rfl⟩
  rw [← hav] at hcs
  have hkn : ks.length ≤ 1000000 := by have e1 : (Tr.mk n ks).flat.length = (flats ks).length + 1 := by simp [Tr.flat]
                                       have := flats_len ks
                                       omega
  obtain ⟨B, hB⟩ : ∃ B, B = w.heap.size := ⟨_, rfl⟩
  have HRS := Lib.hid hrs
  have HCS := Lib.hid hcs
  have HBR := Lib.hid hbr
  have HM := Lib.hid hm
  clear hK hrs hcs hav h5 hbr hm
  by_cases h0 : 0 ≤ n.f1
  · have g0 : decide (0 ≤ n.f1) = true := decide_eq_true h0
    rw [g0, Bool.true_and]
    clear h0
    go_enter Try.func79, Try.ntmps79
    go_wp2
    have hb0 : Blk ((w.alloc (.cells cs.toArray 60)).alloc (.cells #[.int .i64 0, .int .u64 0, .string ⟨#[]⟩] 96)) w.heap.size 60 cs := (show Blk (w.alloc (.cells cs.toArray 60)) _ _ cs from heap_alloc_new w _).alloc _
    have hg0 : Blk ((w.alloc (.cells cs.toArray 60)).alloc (.cells #[.int .i64 0, .int .u64 0, .string ⟨#[]⟩] 96)) (w.heap.size + 1) 96 [.int .i64 0, .int .u64 0, .string ⟨#[]⟩] := by
      have h := heap_alloc_new (w.alloc (.cells cs.toArray 60)) (.cells #[.int .i64 0, .int .u64 0, .string ⟨#[]⟩] 96)
      rw [show (w.alloc (.cells cs.toArray 60)).heap.size = w.heap.size + 1 from by simp] at h
      exact h
    have hq0 : Qt w ((w.alloc (.cells cs.toArray 60)).alloc (.cells #[.int .i64 0, .int .u64 0, .string ⟨#[]⟩] 96)) := ((Qt.refl w).alloc _).alloc _
    generalize ((w.alloc (.cells cs.toArray 60)).alloc (.cells #[.int .i64 0, .int .u64 0, .string ⟨#[]⟩] 96)) = w1 at hb0 hg0 hq0 ⊢
    rw [← hB] at hb0 hg0 ⊢
    obtain ⟨G, hG⟩ : ∃ G, G = B + 1 := ⟨_, rfl⟩
    rw [← hG] at hg0 ⊢
    have hBG : B < G := by omega
    have hBw : w.heap.size ≤ B := by omega
    have HQ0 := Lib.hid hq0
    have HGG := hg0
    have HRG := Lib.hid (show w1.rangeAt B 0 (ndc n ++ [.slice A ks.length c, av]) from hb0.range 0 _ (by rw [HCS.out]; rfl))
    have HBW := Lib.hid hBw
    have HBB := Lib.hid hBG
    clear hb0 hq0 hB hG hg0
    refine wp_region_held (S := (fun u => u.rangeAt B 0 (ndc n ++ [.slice A ks.length c, av]))) (by kernel_rfl) ?_
    change wpAnyH _ _ _ _ _ _ _ _ (World.drew _)
    refine genT fun F0 hA => ?_
    have z0 : F0.tmps.size = 21 := by rw [hA]; rfl
    have e1_0 : F0.eval (.tmp 1) = .pointer (some ⟨B, 0, none⟩) := by rw [hA]; rfl
    have e2_0 : F0.eval (.tmp 2) = .pointer (some ⟨G, 0, none⟩) := by rw [hA]; rfl
    have HA := Lib.hid hA
    clear hA
    have HS := Lib.hid (show World.rangeAt (World.drew _) _ _ _ from HRG.out)
    refine tkT (i := 0) (oi := _) (v := .pointer (some ⟨B, 0, none⟩)) rfl (by kernel_rfl) (by kernel_rfl) (by kernel_rfl) (fun _ _ _ h => h) HS.out (wantedT rfl) (fun w _ => faT rfl e1_0 (by go_simp)) ?_
    intro F1 hF
    replace hF : F1 = F0.put (some 4) (.pointer (some ⟨B, 0, none⟩)) := hF
    have z1 : F1.tmps.size = 21 := by rw [hF]; simpa [Act.put] using z0
    have e1_1 := (show F1.eval (.tmp 1) = F0.eval (.tmp 1) by rw [hF]; exact evO (by decide)).trans e1_0
    have e2_1 := (show F1.eval (.tmp 2) = F0.eval (.tmp 2) by rw [hF]; exact evO (by decide)).trans e2_0
    have e4_1 : F1.eval (.tmp 4) = .pointer (some ⟨B, 0, none⟩) := by rw [hF]; exact evS (by rw [z0]; decide)
    have HF1 := Lib.hid hF
    clear hF e1_0 e2_0
    refine tkT (i := 1) (oi := _) (v := .pointer (some ⟨B, 2, none⟩)) rfl (by kernel_rfl) (by kernel_rfl) (by kernel_rfl) (fun _ _ _ h => h) HS.out (wantedT rfl) (fun w _ => faT rfl e4_1 (by go_simp)) ?_
    intro F2 hF
    replace hF : F2 = F1.put (some 5) (.pointer (some ⟨B, 2, none⟩)) := hF
    have z2 : F2.tmps.size = 21 := by rw [hF]; simpa [Act.put] using z1
    have e1_2 := (show F2.eval (.tmp 1) = F1.eval (.tmp 1) by rw [hF]; exact evO (by decide)).trans e1_1
    have e2_2 := (show F2.eval (.tmp 2) = F1.eval (.tmp 2) by rw [hF]; exact evO (by decide)).trans e2_1
    have e5_2 : F2.eval (.tmp 5) = .pointer (some ⟨B, 2, none⟩) := by rw [hF]; exact evS (by rw [z1]; decide)
    have HF2 := Lib.hid hF
    clear hF e1_1 e2_1 e4_1
    refine tkT (i := 2) (oi := _) (v := .int .u64 n.f2) rfl (by kernel_rfl) (by kernel_rfl) (by kernel_rfl) (fun _ _ _ h => h) HS.out (wantedT rfl) (fun w hs => by have c1 := hs 2 (.int .u64 n.f2) rfl; simp only [Nat.zero_add] at c1; exact ldT rfl e5_2 (by go_simp)) ?_
    intro F3 hF
    replace hF : F3 = F2.put (some 6) (.int .u64 n.f2) := hF
    have z3 : F3.tmps.size = 21 := by rw [hF]; simpa [Act.put] using z2
    have e1_3 := (show F3.eval (.tmp 1) = F2.eval (.tmp 1) by rw [hF]; exact evO (by decide)).trans e1_2
    have e2_3 := (show F3.eval (.tmp 2) = F2.eval (.tmp 2) by rw [hF]; exact evO (by decide)).trans e2_2
    have e6_3 : F3.eval (.tmp 6) = .int .u64 n.f2 := by rw [hF]; exact evS (by rw [z2]; decide)
    have HF3 := Lib.hid hF
    clear hF e1_2 e2_2 e5_2
    refine tkT (i := 3) (oi := _) (v := .pointer (some ⟨B, 0, none⟩)) rfl (by kernel_rfl) (by kernel_rfl) (by kernel_rfl) (fun _ _ _ h => h) HS.out (wantedT rfl) (fun w _ => faT rfl e1_3 (by go_simp)) ?_
    intro F4 hF
    replace hF : F4 = F3.put (some 7) (.pointer (some ⟨B, 0, none⟩)) := hF
    have z4 : F4.tmps.size = 21 := by rw [hF]; simpa [Act.put] using z3
    have e1_4 := (show F4.eval (.tmp 1) = F3.eval (.tmp 1) by rw [hF]; exact evO (by decide)).trans e1_3
    have e2_4 := (show F4.eval (.tmp 2) = F3.eval (.tmp 2) by rw [hF]; exact evO (by decide)).trans e2_3
    have e6_4 := (show F4.eval (.tmp 6) = F3.eval (.tmp 6) by rw [hF]; exact evO (by decide)).trans e6_3
    have e7_4 : F4.eval (.tmp 7) = .pointer (some ⟨B, 0, none⟩) := by rw [hF]; exact evS (by rw [z3]; decide)
    have HF4 := Lib.hid hF
    clear hF e1_3 e2_3 e6_3
    refine tkT (i := 4) (oi := _) (v := .pointer (some ⟨B, 3, none⟩)) rfl (by kernel_rfl) (by kernel_rfl) (by kernel_rfl) (fun _ _ _ h => h) HS.out (wantedT rfl) (fun w _ => faT rfl e7_4 (by go_simp)) ?_
    intro F5 hF
    replace hF : F5 = F4.put (some 8) (.pointer (some ⟨B, 3, none⟩)) := hF
    have z5 : F5.tmps.size = 21 := by rw [hF]; simpa [Act.put] using z4
    have e1_5 := (show F5.eval (.tmp 1) = F4.eval (.tmp 1) by rw [hF]; exact evO (by decide)).trans e1_4
    have e2_5 := (show F5.eval (.tmp 2) = F4.eval (.tmp 2) by rw [hF]; exact evO (by decide)).trans e2_4
    have e6_5 := (show F5.eval (.tmp 6) = F4.eval (.tmp 6) by rw [hF]; exact evO (by decide)).trans e6_4
    have e8_5 : F5.eval (.tmp 8) = .pointer (some ⟨B, 3, none⟩) := by rw [hF]; exact evS (by rw [z4]; decide)
    have HF5 := Lib.hid hF
    clear hF e1_4 e2_4 e6_4 e7_4
    refine tkT (i := 5) (oi := _) (v := .string n.f3) rfl (by kernel_rfl) (by kernel_rfl) (by kernel_rfl) (fun _ _ _ h => h) HS.out (wantedT rfl) (fun w hs => by have c1 := hs 3 (.string n.f3) rfl; simp only [Nat.zero_add] at c1; exact ldT rfl e8_5 (by go_simp)) ?_
    intro F6 hF
    replace hF : F6 = F5.put (some 9) (.string n.f3) := hF
    have z6 : F6.tmps.size = 21 := by rw [hF]; simpa [Act.put] using z5
    have e1_6 := (show F6.eval (.tmp 1) = F5.eval (.tmp 1) by rw [hF]; exact evO (by decide)).trans e1_5
    have e2_6 := (show F6.eval (.tmp 2) = F5.eval (.tmp 2) by rw [hF]; exact evO (by decide)).trans e2_5
    have e6_6 := (show F6.eval (.tmp 6) = F5.eval (.tmp 6) by rw [hF]; exact evO (by decide)).trans e6_5
    have e9_6 : F6.eval (.tmp 9) = .string n.f3 := by rw [hF]; exact evS (by rw [z5]; decide)
    have HF6 := Lib.hid hF
    clear hF e1_5 e2_5 e6_5 e8_5
    refine tkT (i := 6) (oi := _) (v := .agg #[.int .i64 0, .int .u64 n.f2, .string n.f3]) rfl (by kernel_rfl) (by kernel_rfl) (by kernel_rfl) (fun _ _ _ h => h) HS.out (wantedT rfl) (fun w hs => bdT rfl (vals := #[(0, .int .i64 0), (1, .int .u64 n.f2), (2, .string n.f3)]) (by simp only [List.map_toArray, List.map_cons, List.map_nil, e6_6, e9_6] <;> rfl) (by kernel_rfl) w) ?_
    intro F7 hF
    replace hF : F7 = F6.put (some 10) (.agg #[.int .i64 0, .int .u64 n.f2, .string n.f3]) := hF
    have z7 : F7.tmps.size = 21 := by rw [hF]; simpa [Act.put] using z6
    have e1_7 := (show F7.eval (.tmp 1) = F6.eval (.tmp 1) by rw [hF]; exact evO (by decide)).trans e1_6
    have e2_7 := (show F7.eval (.tmp 2) = F6.eval (.tmp 2) by rw [hF]; exact evO (by decide)).trans e2_6
    have e10_7 : F7.eval (.tmp 10) = .agg #[.int .i64 0, .int .u64 n.f2, .string n.f3] := by rw [hF]; exact evS (by rw [z6]; decide)
    have HF7 := Lib.hid hF
    clear hF e1_6 e2_6 e6_6 e9_6
    refine tkT (i := 7) (oi := _) (v := .pointer (some ⟨B, 0, none⟩)) rfl (by kernel_rfl) (by kernel_rfl) (by kernel_rfl) (fun _ _ _ h => h) HS.out (wantedT rfl) (fun w _ => faT rfl e1_7 (by go_simp)) ?_
    intro F8 hF
    replace hF : F8 = F7.put (some 11) (.pointer (some ⟨B, 0, none⟩)) := hF
    have z8 : F8.tmps.size = 21 := by rw [hF]; simpa [Act.put] using z7
    have e1_8 := (show F8.eval (.tmp 1) = F7.eval (.tmp 1) by rw [hF]; exact evO (by decide)).trans e1_7
    have e2_8 := (show F8.eval (.tmp 2) = F7.eval (.tmp 2) by rw [hF]; exact evO (by decide)).trans e2_7
    have e10_8 := (show F8.eval (.tmp 10) = F7.eval (.tmp 10) by rw [hF]; exact evO (by decide)).trans e10_7
    have e11_8 : F8.eval (.tmp 11) = .pointer (some ⟨B, 0, none⟩) := by rw [hF]; exact evS (by rw [z7]; decide)
    have HF8 := Lib.hid hF
    clear hF e1_7 e2_7 e10_7
    refine tkT (i := 8) (oi := _) (v := .pointer (some ⟨B, 1, none⟩)) rfl (by kernel_rfl) (by kernel_rfl) (by kernel_rfl) (fun _ _ _ h => h) HS.out (wantedT rfl) (fun w _ => faT rfl e11_8 (by go_simp)) ?_
    intro F9 hF
    replace hF : F9 = F8.put (some 12) (.pointer (some ⟨B, 1, none⟩)) := hF
    have z9 : F9.tmps.size = 21 := by rw [hF]; simpa [Act.put] using z8
    have e1_9 := (show F9.eval (.tmp 1) = F8.eval (.tmp 1) by rw [hF]; exact evO (by decide)).trans e1_8
    have e2_9 := (show F9.eval (.tmp 2) = F8.eval (.tmp 2) by rw [hF]; exact evO (by decide)).trans e2_8
    have e10_9 := (show F9.eval (.tmp 10) = F8.eval (.tmp 10) by rw [hF]; exact evO (by decide)).trans e10_8
    have e12_9 : F9.eval (.tmp 12) = .pointer (some ⟨B, 1, none⟩) := by rw [hF]; exact evS (by rw [z8]; decide)
    have HF9 := Lib.hid hF
    clear hF e1_8 e2_8 e10_8 e11_8
    refine tkT (i := 9) (oi := _) (v := .int .i64 n.f1) rfl (by kernel_rfl) (by kernel_rfl) (by kernel_rfl) (fun _ _ _ h => h) HS.out (wantedT rfl) (fun w hs => by have c1 := hs 1 (.int .i64 n.f1) rfl; simp only [Nat.zero_add] at c1; exact ldT rfl e12_9 (by go_simp)) ?_
    intro F10 hF
    replace hF : F10 = F9.put (some 13) (.int .i64 n.f1) := hF
    have z10 : F10.tmps.size = 21 := by rw [hF]; simpa [Act.put] using z9
    have e1_10 := (show F10.eval (.tmp 1) = F9.eval (.tmp 1) by rw [hF]; exact evO (by decide)).trans e1_9
    have e2_10 := (show F10.eval (.tmp 2) = F9.eval (.tmp 2) by rw [hF]; exact evO (by decide)).trans e2_9
    have e10_10 := (show F10.eval (.tmp 10) = F9.eval (.tmp 10) by rw [hF]; exact evO (by decide)).trans e10_9
    have e13_10 : F10.eval (.tmp 13) = .int .i64 n.f1 := by rw [hF]; exact evS (by rw [z9]; decide)
    have HF10 := Lib.hid hF
    clear hF e1_9 e2_9 e10_9 e12_9
    refine tkT (i := 10) (oi := _) (v := .bool true) rfl (by kernel_rfl) (by kernel_rfl) (by kernel_rfl) (fun _ _ _ h => h) HS.out (wantedT rfl) (fun w hs => boT rfl e13_10 rfl (by go_simp) (by go_simp)) ?_
    intro F11 hF
    replace hF : F11 = F10.put (some 14) (.bool true) := hF
    have z11 : F11.tmps.size = 21 := by rw [hF]; simpa [Act.put] using z10
    have e1_11 := (show F11.eval (.tmp 1) = F10.eval (.tmp 1) by rw [hF]; exact evO (by decide)).trans e1_10
    have e2_11 := (show F11.eval (.tmp 2) = F10.eval (.tmp 2) by rw [hF]; exact evO (by decide)).trans e2_10
    have e10_11 := (show F11.eval (.tmp 10) = F10.eval (.tmp 10) by rw [hF]; exact evO (by decide)).trans e10_10
    have e14_11 : F11.eval (.tmp 14) = .bool true := by rw [hF]; exact evS (by rw [z10]; decide)
    have HF11 := Lib.hid hF
    clear hF e1_10 e2_10 e10_10 e13_10
    refine tkT (i := 11) (oi := _) (v := .bool true) rfl (by kernel_rfl) (by kernel_rfl) (by kernel_rfl) (fun _ _ _ h => h) HS.out (wantedT rfl) (fun w _ => mvT rfl e14_11 w) ?_
    intro F12 hF
    replace hF : F12 = F11.put (some 15) (.bool true) := hF
    have z12 : F12.tmps.size = 21 := by rw [hF]; simpa [Act.put] using z11
    have e1_12 := (show F12.eval (.tmp 1) = F11.eval (.tmp 1) by rw [hF]; exact evO (by decide)).trans e1_11
    have e2_12 := (show F12.eval (.tmp 2) = F11.eval (.tmp 2) by rw [hF]; exact evO (by decide)).trans e2_11
    have e10_12 := (show F12.eval (.tmp 10) = F11.eval (.tmp 10) by rw [hF]; exact evO (by decide)).trans e10_11
    have e15_12 : F12.eval (.tmp 15) = .bool true := by rw [hF]; exact evS (by rw [z11]; decide)
    have HF12 := Lib.hid hF
    clear hF e1_11 e2_11 e10_11 e14_11
    refine tkT (i := 12) (oi := _) (v := .pointer (some ⟨B, 0, none⟩)) rfl (by kernel_rfl) (by kernel_rfl) (by kernel_rfl) (fun _ _ _ h => h) HS.out (by rw [wantedG (d := 15) rfl rfl e15_12 (by rw [z12]; decide)]; rfl) (fun w _ => faT rfl e1_12 (by go_simp)) ?_
    intro F13 hF
    replace hF : F13 = F12.put (some 16) (.pointer (some ⟨B, 0, none⟩)) := hF
    have z13 : F13.tmps.size = 21 := by rw [hF]; simpa [Act.put] using z12
    have e2_13 := (show F13.eval (.tmp 2) = F12.eval (.tmp 2) by rw [hF]; exact evO (by decide)).trans e2_12
    have e10_13 := (show F13.eval (.tmp 10) = F12.eval (.tmp 10) by rw [hF]; exact evO (by decide)).trans e10_12
    have e15_13 := (show F13.eval (.tmp 15) = F12.eval (.tmp 15) by rw [hF]; exact evO (by decide)).trans e15_12
    have e16_13 : F13.eval (.tmp 16) = .pointer (some ⟨B, 0, none⟩) := by rw [hF]; exact evS (by rw [z12]; decide)
    have HF13 := Lib.hid hF
    clear hF e1_12 e2_12 e10_12 e15_12
    refine tkT (i := 13) (oi := _) (v := .pointer (some ⟨B, 1, none⟩)) rfl (by kernel_rfl) (by kernel_rfl) (by kernel_rfl) (fun _ _ _ h => h) HS.out (by rw [wantedG (d := 15) rfl rfl e15_13 (by rw [z13]; decide)]; rfl) (fun w _ => faT rfl e16_13 (by go_simp)) ?_
    intro F14 hF
    replace hF : F14 = F13.put (some 17) (.pointer (some ⟨B, 1, none⟩)) := hF
    have z14 : F14.tmps.size = 21 := by rw [hF]; simpa [Act.put] using z13
    have e2_14 := (show F14.eval (.tmp 2) = F13.eval (.tmp 2) by rw [hF]; exact evO (by decide)).trans e2_13
    have e10_14 := (show F14.eval (.tmp 10) = F13.eval (.tmp 10) by rw [hF]; exact evO (by decide)).trans e10_13
    have e15_14 := (show F14.eval (.tmp 15) = F13.eval (.tmp 15) by rw [hF]; exact evO (by decide)).trans e15_13
    have e17_14 : F14.eval (.tmp 17) = .pointer (some ⟨B, 1, none⟩) := by rw [hF]; exact evS (by rw [z13]; decide)
    have HF14 := Lib.hid hF
    clear hF e2_13 e10_13 e15_13 e16_13
    refine tkT (i := 14) (oi := _) (v := .int .i64 n.f1) rfl (by kernel_rfl) (by kernel_rfl) (by kernel_rfl) (fun _ _ _ h => h) HS.out (by rw [wantedG (d := 15) rfl rfl e15_14 (by rw [z14]; decide)]; rfl) (fun w hs => by have c1 := hs 1 (.int .i64 n.f1) rfl; simp only [Nat.zero_add] at c1; exact ldT rfl e17_14 (by go_simp)) ?_
    intro F15 hF
    replace hF : F15 = F14.put (some 18) (.int .i64 n.f1) := hF
    have z15 : F15.tmps.size = 21 := by rw [hF]; simpa [Act.put] using z14
    have e2_15 := (show F15.eval (.tmp 2) = F14.eval (.tmp 2) by rw [hF]; exact evO (by decide)).trans e2_14
    have e10_15 := (show F15.eval (.tmp 10) = F14.eval (.tmp 10) by rw [hF]; exact evO (by decide)).trans e10_14
    have e15_15 := (show F15.eval (.tmp 15) = F14.eval (.tmp 15) by rw [hF]; exact evO (by decide)).trans e15_14
    have e18_15 : F15.eval (.tmp 18) = .int .i64 n.f1 := by rw [hF]; exact evS (by rw [z14]; decide)
    have HF15 := Lib.hid hF
    clear hF e2_14 e10_14 e15_14 e17_14
    refine tkT (i := 15) (oi := _) (v := .bool (decide (n.f1 ≤ 2147483647))) rfl (by kernel_rfl) (by kernel_rfl) (by kernel_rfl) (fun _ _ _ h => h) HS.out (by rw [wantedG (d := 15) rfl rfl e15_15 (by rw [z15]; decide)]; rfl) (fun w hs => boT rfl e18_15 rfl (by go_simp) (by go_simp)) ?_
    intro F16 hF
    replace hF : F16 = F15.put (some 19) (.bool (decide (n.f1 ≤ 2147483647))) := hF
    have z16 : F16.tmps.size = 21 := by rw [hF]; simpa [Act.put] using z15
    have e2_16 := (show F16.eval (.tmp 2) = F15.eval (.tmp 2) by rw [hF]; exact evO (by decide)).trans e2_15
    have e10_16 := (show F16.eval (.tmp 10) = F15.eval (.tmp 10) by rw [hF]; exact evO (by decide)).trans e10_15
    have e15_16 := (show F16.eval (.tmp 15) = F15.eval (.tmp 15) by rw [hF]; exact evO (by decide)).trans e15_15
    have e19_16 : F16.eval (.tmp 19) = .bool (decide (n.f1 ≤ 2147483647)) := by rw [hF]; exact evS (by rw [z15]; decide)
    have HF16 := Lib.hid hF
    clear hF e2_15 e10_15 e15_15 e18_15
    refine tkT (i := 16) (oi := _) (v := .bool (decide (n.f1 ≤ 2147483647))) rfl (by kernel_rfl) (by kernel_rfl) (by kernel_rfl) (fun _ _ _ h => h) HS.out (wantedT rfl) (fun w hs => pkT rfl e15_16 e19_16 rfl w) ?_
    intro F17 hF
    replace hF : F17 = F16.put (some 20) (.bool (decide (n.f1 ≤ 2147483647))) := hF
    have z17 : F17.tmps.size = 21 := by rw [hF]; simpa [Act.put] using z16
    have e2_17 := (show F17.eval (.tmp 2) = F16.eval (.tmp 2) by rw [hF]; exact evO (by decide)).trans e2_16
    have e10_17 := (show F17.eval (.tmp 10) = F16.eval (.tmp 10) by rw [hF]; exact evO (by decide)).trans e10_16
    have e20_17 : F17.eval (.tmp 20) = .bool (decide (n.f1 ≤ 2147483647)) := by rw [hF]; exact evS (by rw [z16]; decide)
    have HF17 := Lib.hid hF
    clear hF e2_16 e10_16 e15_16 e19_16
    refine aloneT (i := 17) (oi := _) rfl (by kernel_rfl) (wantedT rfl) ?_
    refine wpStM rfl e2_17 e10_17 (cells := [.int .i64 0, .int .u64 n.f2, .string n.f3]) (t := 96) (c := [.int .i64 0, .int .u64 0, .string ⟨#[]⟩]) HGG (by show 3 ≤ 3; decide) (by kernel_rfl) (by intro u hu; simp only [List.mem_cons, List.not_mem_nil, or_false] at hu; rcases hu with rfl | rfl | rfl <;> rfl) ?_
    intro w3 og3 hz3 hb3
    refine ⟨rangeOg HS.out og3 (by omega), genT fun F18 hF => ?_⟩
    have HS := Lib.hid (rangeOg HS.out og3 (by omega))
    replace hF : F18 = F17.put none (undef) := hF
    have z18 : F18.tmps.size = 21 := by rw [hF]; simpa [Act.put] using z17
    have e20_18 := (show F18.eval (.tmp 20) = F17.eval (.tmp 20) by rw [hF]; exact rfl).trans e20_17
    have HF18 := Lib.hid hF
    clear hF e2_17 e10_17 e20_17
    refine tkT (i := 18) (oi := _) (v := .bool (decide (n.f1 ≤ 2147483647))) rfl (by kernel_rfl) (by kernel_rfl) (by kernel_rfl) (fun _ _ _ h => h) HS.out (wantedT rfl) (fun w _ => asT rfl e20_18 w) ?_
    intro F19 hF
    replace hF : F19 = F18.put (some 3) (.bool (decide (n.f1 ≤ 2147483647))) := hF
    have z19 : F19.tmps.size = 21 := by rw [hF]; simpa [Act.put] using z18
    have HF19 := Lib.hid hF
    clear hF e20_18
    refine wpAnyH_done (by kernel_rfl) ?_ _
    rw [HF19.out, HF18.out, HF17.out, HF16.out, HF15.out, HF14.out, HF13.out, HF12.out, HF11.out, HF10.out, HF9.out, HF8.out, HF7.out, HF6.out, HF5.out, HF4.out, HF3.out, HF2.out, HF1.out, HA.out]
    simp only [Act.put, List.setIfInBounds_toArray, List.set_cons_succ, List.set_cons_zero]
    clear HF19 HF18 HF17 HF16 HF15 HF14 HF13 HF12 HF11 HF10 HF9 HF8 HF7 HF6 HF5 HF4 HF3 HF2 HF1 HA z19 z18 z17 z16 z15 z14 z13 z12 z11 z10 z9 z8 z7 z6 z5 z4 z3 z2 z1 z0 
    try go_wp2
    refine bodyPost_ret (v := .tuple #[.agg #[.int .i64 0, .int .u64 n.f2, .string n.f3], .bool (decide (n.f1 ≤ 2147483647))]) (results_ct (cs := [.int .i64 0, .int .u64 n.f2, .string n.f3]) rfl _ _ G (.struct rs) rfl (by first | exact hb3 | exact HB3.out) _ rfl HRS.out rfl (by kernel_rfl)) rfl ?_
    exact ⟨by first | rfl | simp_all, og3.qt HQ0.out.drew (by have := HBW.out; have := HBB.out; omega)⟩
  · have g0 : decide (0 ≤ n.f1) = false := decide_eq_false h0
    rw [g0, Bool.false_and]
    clear h0
    go_enter Try.func79, Try.ntmps79
    go_wp2
    have hb0 : Blk ((w.alloc (.cells cs.toArray 60)).alloc (.cells #[.int .i64 0, .int .u64 0, .string ⟨#[]⟩] 96)) w.heap.size 60 cs := (show Blk (w.alloc (.cells cs.toArray 60)) _ _ cs from heap_alloc_new w _).alloc _
    have hg0 : Blk ((w.alloc (.cells cs.toArray 60)).alloc (.cells #[.int .i64 0, .int .u64 0, .string ⟨#[]⟩] 96)) (w.heap.size + 1) 96 [.int .i64 0, .int .u64 0, .string ⟨#[]⟩] := by
      have h := heap_alloc_new (w.alloc (.cells cs.toArray 60)) (.cells #[.int .i64 0, .int .u64 0, .string ⟨#[]⟩] 96)
      rw [show (w.alloc (.cells cs.toArray 60)).heap.size = w.heap.size + 1 from by simp] at h
      exact h
    have hq0 : Qt w ((w.alloc (.cells cs.toArray 60)).alloc (.cells #[.int .i64 0, .int .u64 0, .string ⟨#[]⟩] 96)) := ((Qt.refl w).alloc _).alloc _
    generalize ((w.alloc (.cells cs.toArray 60)).alloc (.cells #[.int .i64 0, .int .u64 0, .string ⟨#[]⟩] 96)) = w1 at hb0 hg0 hq0 ⊢
    rw [← hB] at hb0 hg0 ⊢
    obtain ⟨G, hG⟩ : ∃ G, G = B + 1 := ⟨_, rfl⟩
    rw [← hG] at hg0 ⊢
    have hBG : B < G := by omega
    have hBw : w.heap.size ≤ B := by omega
    have HQ0 := Lib.hid hq0
    have HGG := hg0
    have HRG := Lib.hid (show w1.rangeAt B 0 (ndc n ++ [.slice A ks.length c, av]) from hb0.range 0 _ (by rw [HCS.out]; rfl))
    have HBW := Lib.hid hBw
    have HBB := Lib.hid hBG
    clear hb0 hq0 hB hG hg0
    refine wp_region_held (S := (fun u => u.rangeAt B 0 (ndc n ++ [.slice A ks.length c, av]))) (by kernel_rfl) ?_
    change wpAnyH _ _ _ _ _ _ _ _ (World.drew _)
    refine genT fun F0 hA => ?_
    have z0 : F0.tmps.size = 21 := by rw [hA]; rfl
    have e1_0 : F0.eval (.tmp 1) = .pointer (some ⟨B, 0, none⟩) := by rw [hA]; rfl
    have e2_0 : F0.eval (.tmp 2) = .pointer (some ⟨G, 0, none⟩) := by rw [hA]; rfl
    have HA := Lib.hid hA
    clear hA
    have HS := Lib.hid (show World.rangeAt (World.drew _) _ _ _ from HRG.out)
    refine tkT (i := 0) (oi := _) (v := .pointer (some ⟨B, 0, none⟩)) rfl (by kernel_rfl) (by kernel_rfl) (by kernel_rfl) (fun _ _ _ h => h) HS.out (wantedT rfl) (fun w _ => faT rfl e1_0 (by go_simp)) ?_
    intro F1 hF
    replace hF : F1 = F0.put (some 4) (.pointer (some ⟨B, 0, none⟩)) := hF
    have z1 : F1.tmps.size = 21 := by rw [hF]; simpa [Act.put] using z0
    have e1_1 := (show F1.eval (.tmp 1) = F0.eval (.tmp 1) by rw [hF]; exact evO (by decide)).trans e1_0
    have e2_1 := (show F1.eval (.tmp 2) = F0.eval (.tmp 2) by rw [hF]; exact evO (by decide)).trans e2_0
    have e4_1 : F1.eval (.tmp 4) = .pointer (some ⟨B, 0, none⟩) := by rw [hF]; exact evS (by rw [z0]; decide)
    have HF1 := Lib.hid hF
    clear hF e1_0 e2_0
    refine tkT (i := 1) (oi := _) (v := .pointer (some ⟨B, 2, none⟩)) rfl (by kernel_rfl) (by kernel_rfl) (by kernel_rfl) (fun _ _ _ h => h) HS.out (wantedT rfl) (fun w _ => faT rfl e4_1 (by go_simp)) ?_
    intro F2 hF
    replace hF : F2 = F1.put (some 5) (.pointer (some ⟨B, 2, none⟩)) := hF
    have z2 : F2.tmps.size = 21 := by rw [hF]; simpa [Act.put] using z1
    have e1_2 := (show F2.eval (.tmp 1) = F1.eval (.tmp 1) by rw [hF]; exact evO (by decide)).trans e1_1
    have e2_2 := (show F2.eval (.tmp 2) = F1.eval (.tmp 2) by rw [hF]; exact evO (by decide)).trans e2_1
    have e5_2 : F2.eval (.tmp 5) = .pointer (some ⟨B, 2, none⟩) := by rw [hF]; exact evS (by rw [z1]; decide)
    have HF2 := Lib.hid hF
    clear hF e1_1 e2_1 e4_1
    refine tkT (i := 2) (oi := _) (v := .int .u64 n.f2) rfl (by kernel_rfl) (by kernel_rfl) (by kernel_rfl) (fun _ _ _ h => h) HS.out (wantedT rfl) (fun w hs => by have c1 := hs 2 (.int .u64 n.f2) rfl; simp only [Nat.zero_add] at c1; exact ldT rfl e5_2 (by go_simp)) ?_
    intro F3 hF
    replace hF : F3 = F2.put (some 6) (.int .u64 n.f2) := hF
    have z3 : F3.tmps.size = 21 := by rw [hF]; simpa [Act.put] using z2
    have e1_3 := (show F3.eval (.tmp 1) = F2.eval (.tmp 1) by rw [hF]; exact evO (by decide)).trans e1_2
    have e2_3 := (show F3.eval (.tmp 2) = F2.eval (.tmp 2) by rw [hF]; exact evO (by decide)).trans e2_2
    have e6_3 : F3.eval (.tmp 6) = .int .u64 n.f2 := by rw [hF]; exact evS (by rw [z2]; decide)
    have HF3 := Lib.hid hF
    clear hF e1_2 e2_2 e5_2
    refine tkT (i := 3) (oi := _) (v := .pointer (some ⟨B, 0, none⟩)) rfl (by kernel_rfl) (by kernel_rfl) (by kernel_rfl) (fun _ _ _ h => h) HS.out (wantedT rfl) (fun w _ => faT rfl e1_3 (by go_simp)) ?_
    intro F4 hF
    replace hF : F4 = F3.put (some 7) (.pointer (some ⟨B, 0, none⟩)) := hF
    have z4 : F4.tmps.size = 21 := by rw [hF]; simpa [Act.put] using z3
    have e1_4 := (show F4.eval (.tmp 1) = F3.eval (.tmp 1) by rw [hF]; exact evO (by decide)).trans e1_3
    have e2_4 := (show F4.eval (.tmp 2) = F3.eval (.tmp 2) by rw [hF]; exact evO (by decide)).trans e2_3
    have e6_4 := (show F4.eval (.tmp 6) = F3.eval (.tmp 6) by rw [hF]; exact evO (by decide)).trans e6_3
    have e7_4 : F4.eval (.tmp 7) = .pointer (some ⟨B, 0, none⟩) := by rw [hF]; exact evS (by rw [z3]; decide)
    have HF4 := Lib.hid hF
    clear hF e1_3 e2_3 e6_3
    refine tkT (i := 4) (oi := _) (v := .pointer (some ⟨B, 3, none⟩)) rfl (by kernel_rfl) (by kernel_rfl) (by kernel_rfl) (fun _ _ _ h => h) HS.out (wantedT rfl) (fun w _ => faT rfl e7_4 (by go_simp)) ?_
    intro F5 hF
    replace hF : F5 = F4.put (some 8) (.pointer (some ⟨B, 3, none⟩)) := hF
    have z5 : F5.tmps.size = 21 := by rw [hF]; simpa [Act.put] using z4
    have e1_5 := (show F5.eval (.tmp 1) = F4.eval (.tmp 1) by rw [hF]; exact evO (by decide)).trans e1_4
    have e2_5 := (show F5.eval (.tmp 2) = F4.eval (.tmp 2) by rw [hF]; exact evO (by decide)).trans e2_4
    have e6_5 := (show F5.eval (.tmp 6) = F4.eval (.tmp 6) by rw [hF]; exact evO (by decide)).trans e6_4
    have e8_5 : F5.eval (.tmp 8) = .pointer (some ⟨B, 3, none⟩) := by rw [hF]; exact evS (by rw [z4]; decide)
    have HF5 := Lib.hid hF
    clear hF e1_4 e2_4 e6_4 e7_4
    refine tkT (i := 5) (oi := _) (v := .string n.f3) rfl (by kernel_rfl) (by kernel_rfl) (by kernel_rfl) (fun _ _ _ h => h) HS.out (wantedT rfl) (fun w hs => by have c1 := hs 3 (.string n.f3) rfl; simp only [Nat.zero_add] at c1; exact ldT rfl e8_5 (by go_simp)) ?_
    intro F6 hF
    replace hF : F6 = F5.put (some 9) (.string n.f3) := hF
    have z6 : F6.tmps.size = 21 := by rw [hF]; simpa [Act.put] using z5
    have e1_6 := (show F6.eval (.tmp 1) = F5.eval (.tmp 1) by rw [hF]; exact evO (by decide)).trans e1_5
    have e2_6 := (show F6.eval (.tmp 2) = F5.eval (.tmp 2) by rw [hF]; exact evO (by decide)).trans e2_5
    have e6_6 := (show F6.eval (.tmp 6) = F5.eval (.tmp 6) by rw [hF]; exact evO (by decide)).trans e6_5
    have e9_6 : F6.eval (.tmp 9) = .string n.f3 := by rw [hF]; exact evS (by rw [z5]; decide)
    have HF6 := Lib.hid hF
    clear hF e1_5 e2_5 e6_5 e8_5
    refine tkT (i := 6) (oi := _) (v := .agg #[.int .i64 0, .int .u64 n.f2, .string n.f3]) rfl (by kernel_rfl) (by kernel_rfl) (by kernel_rfl) (fun _ _ _ h => h) HS.out (wantedT rfl) (fun w hs => bdT rfl (vals := #[(0, .int .i64 0), (1, .int .u64 n.f2), (2, .string n.f3)]) (by simp only [List.map_toArray, List.map_cons, List.map_nil, e6_6, e9_6] <;> rfl) (by kernel_rfl) w) ?_
    intro F7 hF
    replace hF : F7 = F6.put (some 10) (.agg #[.int .i64 0, .int .u64 n.f2, .string n.f3]) := hF
    have z7 : F7.tmps.size = 21 := by rw [hF]; simpa [Act.put] using z6
    have e1_7 := (show F7.eval (.tmp 1) = F6.eval (.tmp 1) by rw [hF]; exact evO (by decide)).trans e1_6
    have e2_7 := (show F7.eval (.tmp 2) = F6.eval (.tmp 2) by rw [hF]; exact evO (by decide)).trans e2_6
    have e10_7 : F7.eval (.tmp 10) = .agg #[.int .i64 0, .int .u64 n.f2, .string n.f3] := by rw [hF]; exact evS (by rw [z6]; decide)
    have HF7 := Lib.hid hF
    clear hF e1_6 e2_6 e6_6 e9_6
    refine tkT (i := 7) (oi := _) (v := .pointer (some ⟨B, 0, none⟩)) rfl (by kernel_rfl) (by kernel_rfl) (by kernel_rfl) (fun _ _ _ h => h) HS.out (wantedT rfl) (fun w _ => faT rfl e1_7 (by go_simp)) ?_
    intro F8 hF
    replace hF : F8 = F7.put (some 11) (.pointer (some ⟨B, 0, none⟩)) := hF
    have z8 : F8.tmps.size = 21 := by rw [hF]; simpa [Act.put] using z7
    have e2_8 := (show F8.eval (.tmp 2) = F7.eval (.tmp 2) by rw [hF]; exact evO (by decide)).trans e2_7
    have e10_8 := (show F8.eval (.tmp 10) = F7.eval (.tmp 10) by rw [hF]; exact evO (by decide)).trans e10_7
    have e11_8 : F8.eval (.tmp 11) = .pointer (some ⟨B, 0, none⟩) := by rw [hF]; exact evS (by rw [z7]; decide)
    have HF8 := Lib.hid hF
    clear hF e1_7 e2_7 e10_7
    refine tkT (i := 8) (oi := _) (v := .pointer (some ⟨B, 1, none⟩)) rfl (by kernel_rfl) (by kernel_rfl) (by kernel_rfl) (fun _ _ _ h => h) HS.out (wantedT rfl) (fun w _ => faT rfl e11_8 (by go_simp)) ?_
    intro F9 hF
    replace hF : F9 = F8.put (some 12) (.pointer (some ⟨B, 1, none⟩)) := hF
    have z9 : F9.tmps.size = 21 := by rw [hF]; simpa [Act.put] using z8
    have e2_9 := (show F9.eval (.tmp 2) = F8.eval (.tmp 2) by rw [hF]; exact evO (by decide)).trans e2_8
    have e10_9 := (show F9.eval (.tmp 10) = F8.eval (.tmp 10) by rw [hF]; exact evO (by decide)).trans e10_8
    have e12_9 : F9.eval (.tmp 12) = .pointer (some ⟨B, 1, none⟩) := by rw [hF]; exact evS (by rw [z8]; decide)
    have HF9 := Lib.hid hF
    clear hF e2_8 e10_8 e11_8
    refine tkT (i := 9) (oi := _) (v := .int .i64 n.f1) rfl (by kernel_rfl) (by kernel_rfl) (by kernel_rfl) (fun _ _ _ h => h) HS.out (wantedT rfl) (fun w hs => by have c1 := hs 1 (.int .i64 n.f1) rfl; simp only [Nat.zero_add] at c1; exact ldT rfl e12_9 (by go_simp)) ?_
    intro F10 hF
    replace hF : F10 = F9.put (some 13) (.int .i64 n.f1) := hF
    have z10 : F10.tmps.size = 21 := by rw [hF]; simpa [Act.put] using z9
    have e2_10 := (show F10.eval (.tmp 2) = F9.eval (.tmp 2) by rw [hF]; exact evO (by decide)).trans e2_9
    have e10_10 := (show F10.eval (.tmp 10) = F9.eval (.tmp 10) by rw [hF]; exact evO (by decide)).trans e10_9
    have e13_10 : F10.eval (.tmp 13) = .int .i64 n.f1 := by rw [hF]; exact evS (by rw [z9]; decide)
    have HF10 := Lib.hid hF
    clear hF e2_9 e10_9 e12_9
    refine tkT (i := 10) (oi := _) (v := .bool false) rfl (by kernel_rfl) (by kernel_rfl) (by kernel_rfl) (fun _ _ _ h => h) HS.out (wantedT rfl) (fun w hs => boT rfl e13_10 rfl (by go_simp) (by go_simp)) ?_
    intro F11 hF
    replace hF : F11 = F10.put (some 14) (.bool false) := hF
    have z11 : F11.tmps.size = 21 := by rw [hF]; simpa [Act.put] using z10
    have e2_11 := (show F11.eval (.tmp 2) = F10.eval (.tmp 2) by rw [hF]; exact evO (by decide)).trans e2_10
    have e10_11 := (show F11.eval (.tmp 10) = F10.eval (.tmp 10) by rw [hF]; exact evO (by decide)).trans e10_10
    have e14_11 : F11.eval (.tmp 14) = .bool false := by rw [hF]; exact evS (by rw [z10]; decide)
    have HF11 := Lib.hid hF
    clear hF e2_10 e10_10 e13_10
    refine tkT (i := 11) (oi := _) (v := .bool false) rfl (by kernel_rfl) (by kernel_rfl) (by kernel_rfl) (fun _ _ _ h => h) HS.out (wantedT rfl) (fun w _ => mvT rfl e14_11 w) ?_
    intro F12 hF
    replace hF : F12 = F11.put (some 15) (.bool false) := hF
    have z12 : F12.tmps.size = 21 := by rw [hF]; simpa [Act.put] using z11
    have e2_12 := (show F12.eval (.tmp 2) = F11.eval (.tmp 2) by rw [hF]; exact evO (by decide)).trans e2_11
    have e10_12 := (show F12.eval (.tmp 10) = F11.eval (.tmp 10) by rw [hF]; exact evO (by decide)).trans e10_11
    have e15_12 : F12.eval (.tmp 15) = .bool false := by rw [hF]; exact evS (by rw [z11]; decide)
    have HF12 := Lib.hid hF
    clear hF e2_11 e10_11 e14_11
    refine skT (i := 12) (oi := _) rfl (by kernel_rfl) (by kernel_rfl) (by kernel_rfl) (fun _ _ _ h => h) HS.out (by rw [wantedG (d := 15) rfl rfl e15_12 (by rw [z12]; decide)]; rfl) ?_
    intro F13 hF
    replace hF : F13 = F12.put (some 16) (undef) := hF
    have z13 : F13.tmps.size = 21 := by rw [hF]; simpa [Act.put] using z12
    have e2_13 := (show F13.eval (.tmp 2) = F12.eval (.tmp 2) by rw [hF]; exact evO (by decide)).trans e2_12
    have e10_13 := (show F13.eval (.tmp 10) = F12.eval (.tmp 10) by rw [hF]; exact evO (by decide)).trans e10_12
    have e15_13 := (show F13.eval (.tmp 15) = F12.eval (.tmp 15) by rw [hF]; exact evO (by decide)).trans e15_12
    have HF13 := Lib.hid hF
    clear hF e2_12 e10_12 e15_12
    refine skT (i := 13) (oi := _) rfl (by kernel_rfl) (by kernel_rfl) (by kernel_rfl) (fun _ _ _ h => h) HS.out (by rw [wantedG (d := 15) rfl rfl e15_13 (by rw [z13]; decide)]; rfl) ?_
    intro F14 hF
    replace hF : F14 = F13.put (some 17) (undef) := hF
    have z14 : F14.tmps.size = 21 := by rw [hF]; simpa [Act.put] using z13
    have e2_14 := (show F14.eval (.tmp 2) = F13.eval (.tmp 2) by rw [hF]; exact evO (by decide)).trans e2_13
    have e10_14 := (show F14.eval (.tmp 10) = F13.eval (.tmp 10) by rw [hF]; exact evO (by decide)).trans e10_13
    have e15_14 := (show F14.eval (.tmp 15) = F13.eval (.tmp 15) by rw [hF]; exact evO (by decide)).trans e15_13
    have HF14 := Lib.hid hF
    clear hF e2_13 e10_13 e15_13
    refine skT (i := 14) (oi := _) rfl (by kernel_rfl) (by kernel_rfl) (by kernel_rfl) (fun _ _ _ h => h) HS.out (by rw [wantedG (d := 15) rfl rfl e15_14 (by rw [z14]; decide)]; rfl) ?_
    intro F15 hF
    replace hF : F15 = F14.put (some 18) (undef) := hF
    have z15 : F15.tmps.size = 21 := by rw [hF]; simpa [Act.put] using z14
    have e2_15 := (show F15.eval (.tmp 2) = F14.eval (.tmp 2) by rw [hF]; exact evO (by decide)).trans e2_14
    have e10_15 := (show F15.eval (.tmp 10) = F14.eval (.tmp 10) by rw [hF]; exact evO (by decide)).trans e10_14
    have e15_15 := (show F15.eval (.tmp 15) = F14.eval (.tmp 15) by rw [hF]; exact evO (by decide)).trans e15_14
    have HF15 := Lib.hid hF
    clear hF e2_14 e10_14 e15_14
    refine skT (i := 15) (oi := _) rfl (by kernel_rfl) (by kernel_rfl) (by kernel_rfl) (fun _ _ _ h => h) HS.out (by rw [wantedG (d := 15) rfl rfl e15_15 (by rw [z15]; decide)]; rfl) ?_
    intro F16 hF
    replace hF : F16 = F15.put (some 19) (undef) := hF
    have z16 : F16.tmps.size = 21 := by rw [hF]; simpa [Act.put] using z15
    have e2_16 := (show F16.eval (.tmp 2) = F15.eval (.tmp 2) by rw [hF]; exact evO (by decide)).trans e2_15
    have e10_16 := (show F16.eval (.tmp 10) = F15.eval (.tmp 10) by rw [hF]; exact evO (by decide)).trans e10_15
    have e15_16 := (show F16.eval (.tmp 15) = F15.eval (.tmp 15) by rw [hF]; exact evO (by decide)).trans e15_15
    have e19_16 : F16.eval (.tmp 19) = undef := by rw [hF]; exact evS (by rw [z15]; decide)
    have HF16 := Lib.hid hF
    clear hF e2_15 e10_15 e15_15
    refine tkT (i := 16) (oi := _) (v := .bool false) rfl (by kernel_rfl) (by kernel_rfl) (by kernel_rfl) (fun _ _ _ h => h) HS.out (wantedT rfl) (fun w hs => pkT (vy := .bool false) rfl e15_16 e19_16 rfl w) ?_
    intro F17 hF
    replace hF : F17 = F16.put (some 20) (.bool false) := hF
    have z17 : F17.tmps.size = 21 := by rw [hF]; simpa [Act.put] using z16
    have e2_17 := (show F17.eval (.tmp 2) = F16.eval (.tmp 2) by rw [hF]; exact evO (by decide)).trans e2_16
    have e10_17 := (show F17.eval (.tmp 10) = F16.eval (.tmp 10) by rw [hF]; exact evO (by decide)).trans e10_16
    have e20_17 : F17.eval (.tmp 20) = .bool false := by rw [hF]; exact evS (by rw [z16]; decide)
    have HF17 := Lib.hid hF
    clear hF e2_16 e10_16 e15_16 e19_16
    refine aloneT (i := 17) (oi := _) rfl (by kernel_rfl) (wantedT rfl) ?_
    refine wpStM rfl e2_17 e10_17 (cells := [.int .i64 0, .int .u64 n.f2, .string n.f3]) (t := 96) (c := [.int .i64 0, .int .u64 0, .string ⟨#[]⟩]) HGG (by show 3 ≤ 3; decide) (by kernel_rfl) (by intro u hu; simp only [List.mem_cons, List.not_mem_nil, or_false] at hu; rcases hu with rfl | rfl | rfl <;> rfl) ?_
    intro w3 og3 hz3 hb3
    refine ⟨rangeOg HS.out og3 (by omega), genT fun F18 hF => ?_⟩
    have HS := Lib.hid (rangeOg HS.out og3 (by omega))
    replace hF : F18 = F17.put none (undef) := hF
    have z18 : F18.tmps.size = 21 := by rw [hF]; simpa [Act.put] using z17
    have e20_18 := (show F18.eval (.tmp 20) = F17.eval (.tmp 20) by rw [hF]; exact rfl).trans e20_17
    have HF18 := Lib.hid hF
    clear hF e2_17 e10_17 e20_17
    refine tkT (i := 18) (oi := _) (v := .bool false) rfl (by kernel_rfl) (by kernel_rfl) (by kernel_rfl) (fun _ _ _ h => h) HS.out (wantedT rfl) (fun w _ => asT rfl e20_18 w) ?_
    intro F19 hF
    replace hF : F19 = F18.put (some 3) (.bool false) := hF
    have z19 : F19.tmps.size = 21 := by rw [hF]; simpa [Act.put] using z18
    have HF19 := Lib.hid hF
    clear hF e20_18
    refine wpAnyH_done (by kernel_rfl) ?_ _
    rw [HF19.out, HF18.out, HF17.out, HF16.out, HF15.out, HF14.out, HF13.out, HF12.out, HF11.out, HF10.out, HF9.out, HF8.out, HF7.out, HF6.out, HF5.out, HF4.out, HF3.out, HF2.out, HF1.out, HA.out]
    simp only [Act.put, List.setIfInBounds_toArray, List.set_cons_succ, List.set_cons_zero]
    clear HF19 HF18 HF17 HF16 HF15 HF14 HF13 HF12 HF11 HF10 HF9 HF8 HF7 HF6 HF5 HF4 HF3 HF2 HF1 HA z19 z18 z17 z16 z15 z14 z13 z12 z11 z10 z9 z8 z7 z6 z5 z4 z3 z2 z1 z0 
    try go_wp2
    refine bodyPost_ret (v := .tuple #[.agg #[.int .i64 0, .int .u64 n.f2, .string n.f3], .bool (false)]) (results_ct (cs := [.int .i64 0, .int .u64 n.f2, .string n.f3]) rfl _ _ G (.struct rs) rfl (by first | exact hb3 | exact HB3.out) _ rfl HRS.out rfl (by kernel_rfl)) rfl ?_
    exact ⟨by first | rfl | simp_all, og3.qt HQ0.out.drew (by have := HBW.out; have := HBB.out; omega)⟩

set_option maxRecDepth 100000 in
set_option maxHeartbeats 1000000 in
theorem kind6_any (n : Nd) (ks : List Tr) (cs : List Value) (ok : Nat → Prop) (w : World) (hm : (Tr.mk n ks).flat.length ≤ 1000000) (hbr : Br w ok cs (.mk n ks)) :
    Calls Try.prog 80 #[.agg cs.toArray] w fun e w' => e = .returned (.tuple #[.agg #[.int .i64 n.f1, .int .u64 n.f2, .string n.f3], .bool (rising ks)]) ∧ Qt w w' := by
  obtain ⟨A, c, avA, avc, cf, hcs, h7, h1, h5, hc, hK, _⟩ := hbr.parts
  obtain ⟨rs, hrs⟩ : ∃ fs, Try.prog.underlying 96 = some (.struct fs) := ⟨_, Try.underlying96⟩
  obtain ⟨av, hav⟩ : ∃ av : Value, av = .slice avA (Tr.mk n ks).flat.length avc := ⟨_, rfl⟩
  rw [← hav] at hcs
  have hkn : ks.length ≤ 1000000 := by have e1 : (Tr.mk n ks).flat.length = (flats ks).length + 1 := by simp [Tr.flat]
                                       have := flats_len ks
                                       omega
  obtain ⟨B, hB⟩ : ∃ B, B = w.heap.size := ⟨_, rfl⟩
  have HRS := Lib.hid hrs
  have HCS := Lib.hid hcs
  have HBR := Lib.hid hbr
  have HM := Lib.hid hm
  clear hK hrs hcs hav h5 hbr hm
  obtain ⟨gs, hgs⟩ : ∃ fs, Try.prog.underlying 60 = some (.struct fs) := ⟨_, Try.underlying60⟩
  have HGS := Lib.hid hgs
  clear hgs
  go_enter Try.func80, Try.ntmps80
  go_wp2
  have hb0 : Blk ((w.alloc (.cells cs.toArray 60)).alloc (.cells #[.int .i64 0, .int .u64 0, .string ⟨#[]⟩] 96)) w.heap.size 60 cs := (show Blk (w.alloc (.cells cs.toArray 60)) _ _ cs from heap_alloc_new w _).alloc _
  have hg0 : Blk ((w.alloc (.cells cs.toArray 60)).alloc (.cells #[.int .i64 0, .int .u64 0, .string ⟨#[]⟩] 96)) (w.heap.size + 1) 96 [.int .i64 0, .int .u64 0, .string ⟨#[]⟩] := by
    have h := heap_alloc_new (w.alloc (.cells cs.toArray 60)) (.cells #[.int .i64 0, .int .u64 0, .string ⟨#[]⟩] 96)
    rw [show (w.alloc (.cells cs.toArray 60)).heap.size = w.heap.size + 1 from by simp] at h
    exact h
  have hq0 : Qt w ((w.alloc (.cells cs.toArray 60)).alloc (.cells #[.int .i64 0, .int .u64 0, .string ⟨#[]⟩] 96)) := ((Qt.refl w).alloc _).alloc _
  generalize ((w.alloc (.cells cs.toArray 60)).alloc (.cells #[.int .i64 0, .int .u64 0, .string ⟨#[]⟩] 96)) = w1 at hb0 hg0 hq0 ⊢
  rw [← hB] at hb0 hg0 ⊢
  obtain ⟨G, hG⟩ : ∃ G, G = B + 1 := ⟨_, rfl⟩
  rw [← hG] at hg0 ⊢
  have hBG : B < G := by omega
  have hBw : w.heap.size ≤ B := by omega
  have HQ0 := Lib.hid hq0
  have HGG := hg0
  have HRG := Lib.hid (show w1.rangeAt B 0 (ndc n ++ [.slice A ks.length c, av]) from hb0.range 0 _ (by rw [HCS.out]; rfl))
  have HBW := Lib.hid hBw
  have HBB := Lib.hid hBG
  clear hb0 hq0 hB hG hg0
  refine wp_region_held (S := (fun u => u.rangeAt B 0 (ndc n ++ [.slice A ks.length c, av]))) (by kernel_rfl) ?_
  change wpAnyH _ _ _ _ _ _ _ _ (World.drew _)
  refine genT fun F0 hA => ?_
  have z0 : F0.tmps.size = 16 := by rw [hA]; rfl
  have e1_0 : F0.eval (.tmp 1) = .pointer (some ⟨B, 0, none⟩) := by rw [hA]; rfl
  have e2_0 : F0.eval (.tmp 2) = .pointer (some ⟨G, 0, none⟩) := by rw [hA]; rfl
  have HA := Lib.hid hA
  clear hA
  have HS := Lib.hid (show World.rangeAt (World.drew _) _ _ _ from HRG.out)
  refine tkT (i := 0) (oi := _) (v := .pointer (some ⟨B, 0, none⟩)) rfl (by kernel_rfl) (by kernel_rfl) (by kernel_rfl) (fun _ _ _ h => h) HS.out (wantedT rfl) (fun w _ => faT rfl e1_0 (by go_simp)) ?_
  intro F1 hF
  replace hF : F1 = F0.put (some 4) (.pointer (some ⟨B, 0, none⟩)) := hF
  have z1 : F1.tmps.size = 16 := by rw [hF]; simpa [Act.put] using z0
  have e1_1 := (show F1.eval (.tmp 1) = F0.eval (.tmp 1) by rw [hF]; exact evO (by decide)).trans e1_0
  have e2_1 := (show F1.eval (.tmp 2) = F0.eval (.tmp 2) by rw [hF]; exact evO (by decide)).trans e2_0
  have e4_1 : F1.eval (.tmp 4) = .pointer (some ⟨B, 0, none⟩) := by rw [hF]; exact evS (by rw [z0]; decide)
  have HF1 := Lib.hid hF
  clear hF e1_0 e2_0
  refine tkT (i := 1) (oi := _) (v := .pointer (some ⟨B, 1, none⟩)) rfl (by kernel_rfl) (by kernel_rfl) (by kernel_rfl) (fun _ _ _ h => h) HS.out (wantedT rfl) (fun w _ => faT rfl e4_1 (by go_simp)) ?_
  intro F2 hF
  replace hF : F2 = F1.put (some 5) (.pointer (some ⟨B, 1, none⟩)) := hF
  have z2 : F2.tmps.size = 16 := by rw [hF]; simpa [Act.put] using z1
  have e1_2 := (show F2.eval (.tmp 1) = F1.eval (.tmp 1) by rw [hF]; exact evO (by decide)).trans e1_1
  have e2_2 := (show F2.eval (.tmp 2) = F1.eval (.tmp 2) by rw [hF]; exact evO (by decide)).trans e2_1
  have e5_2 : F2.eval (.tmp 5) = .pointer (some ⟨B, 1, none⟩) := by rw [hF]; exact evS (by rw [z1]; decide)
  have HF2 := Lib.hid hF
  clear hF e1_1 e2_1 e4_1
  refine tkT (i := 2) (oi := _) (v := .int .i64 n.f1) rfl (by kernel_rfl) (by kernel_rfl) (by kernel_rfl) (fun _ _ _ h => h) HS.out (wantedT rfl) (fun w hs => by have c1 := hs 1 (.int .i64 n.f1) rfl; simp only [Nat.zero_add] at c1; exact ldT rfl e5_2 (by go_simp)) ?_
  intro F3 hF
  replace hF : F3 = F2.put (some 6) (.int .i64 n.f1) := hF
  have z3 : F3.tmps.size = 16 := by rw [hF]; simpa [Act.put] using z2
  have e1_3 := (show F3.eval (.tmp 1) = F2.eval (.tmp 1) by rw [hF]; exact evO (by decide)).trans e1_2
  have e2_3 := (show F3.eval (.tmp 2) = F2.eval (.tmp 2) by rw [hF]; exact evO (by decide)).trans e2_2
  have e6_3 : F3.eval (.tmp 6) = .int .i64 n.f1 := by rw [hF]; exact evS (by rw [z2]; decide)
  have HF3 := Lib.hid hF
  clear hF e1_2 e2_2 e5_2
  refine tkT (i := 3) (oi := _) (v := .pointer (some ⟨B, 0, none⟩)) rfl (by kernel_rfl) (by kernel_rfl) (by kernel_rfl) (fun _ _ _ h => h) HS.out (wantedT rfl) (fun w _ => faT rfl e1_3 (by go_simp)) ?_
  intro F4 hF
  replace hF : F4 = F3.put (some 7) (.pointer (some ⟨B, 0, none⟩)) := hF
  have z4 : F4.tmps.size = 16 := by rw [hF]; simpa [Act.put] using z3
  have e1_4 := (show F4.eval (.tmp 1) = F3.eval (.tmp 1) by rw [hF]; exact evO (by decide)).trans e1_3
  have e2_4 := (show F4.eval (.tmp 2) = F3.eval (.tmp 2) by rw [hF]; exact evO (by decide)).trans e2_3
  have e6_4 := (show F4.eval (.tmp 6) = F3.eval (.tmp 6) by rw [hF]; exact evO (by decide)).trans e6_3
  have e7_4 : F4.eval (.tmp 7) = .pointer (some ⟨B, 0, none⟩) := by rw [hF]; exact evS (by rw [z3]; decide)
  have HF4 := Lib.hid hF
  clear hF e1_3 e2_3 e6_3
  refine tkT (i := 4) (oi := _) (v := .pointer (some ⟨B, 2, none⟩)) rfl (by kernel_rfl) (by kernel_rfl) (by kernel_rfl) (fun _ _ _ h => h) HS.out (wantedT rfl) (fun w _ => faT rfl e7_4 (by go_simp)) ?_
  intro F5 hF
  replace hF : F5 = F4.put (some 8) (.pointer (some ⟨B, 2, none⟩)) := hF
  have z5 : F5.tmps.size = 16 := by rw [hF]; simpa [Act.put] using z4
  have e1_5 := (show F5.eval (.tmp 1) = F4.eval (.tmp 1) by rw [hF]; exact evO (by decide)).trans e1_4
  have e2_5 := (show F5.eval (.tmp 2) = F4.eval (.tmp 2) by rw [hF]; exact evO (by decide)).trans e2_4
  have e6_5 := (show F5.eval (.tmp 6) = F4.eval (.tmp 6) by rw [hF]; exact evO (by decide)).trans e6_4
  have e8_5 : F5.eval (.tmp 8) = .pointer (some ⟨B, 2, none⟩) := by rw [hF]; exact evS (by rw [z4]; decide)
  have HF5 := Lib.hid hF
  clear hF e1_4 e2_4 e6_4 e7_4
  refine tkT (i := 5) (oi := _) (v := .int .u64 n.f2) rfl (by kernel_rfl) (by kernel_rfl) (by kernel_rfl) (fun _ _ _ h => h) HS.out (wantedT rfl) (fun w hs => by have c1 := hs 2 (.int .u64 n.f2) rfl; simp only [Nat.zero_add] at c1; exact ldT rfl e8_5 (by go_simp)) ?_
  intro F6 hF
  replace hF : F6 = F5.put (some 9) (.int .u64 n.f2) := hF
  have z6 : F6.tmps.size = 16 := by rw [hF]; simpa [Act.put] using z5
  have e1_6 := (show F6.eval (.tmp 1) = F5.eval (.tmp 1) by rw [hF]; exact evO (by decide)).trans e1_5
  have e2_6 := (show F6.eval (.tmp 2) = F5.eval (.tmp 2) by rw [hF]; exact evO (by decide)).trans e2_5
  have e6_6 := (show F6.eval (.tmp 6) = F5.eval (.tmp 6) by rw [hF]; exact evO (by decide)).trans e6_5
  have e9_6 : F6.eval (.tmp 9) = .int .u64 n.f2 := by rw [hF]; exact evS (by rw [z5]; decide)
  have HF6 := Lib.hid hF
  clear hF e1_5 e2_5 e6_5 e8_5
  refine tkT (i := 6) (oi := _) (v := .pointer (some ⟨B, 0, none⟩)) rfl (by kernel_rfl) (by kernel_rfl) (by kernel_rfl) (fun _ _ _ h => h) HS.out (wantedT rfl) (fun w _ => faT rfl e1_6 (by go_simp)) ?_
  intro F7 hF
  replace hF : F7 = F6.put (some 10) (.pointer (some ⟨B, 0, none⟩)) := hF
  have z7 : F7.tmps.size = 16 := by rw [hF]; simpa [Act.put] using z6
  have e1_7 := (show F7.eval (.tmp 1) = F6.eval (.tmp 1) by rw [hF]; exact evO (by decide)).trans e1_6
  have e2_7 := (show F7.eval (.tmp 2) = F6.eval (.tmp 2) by rw [hF]; exact evO (by decide)).trans e2_6
  have e6_7 := (show F7.eval (.tmp 6) = F6.eval (.tmp 6) by rw [hF]; exact evO (by decide)).trans e6_6
  have e9_7 := (show F7.eval (.tmp 9) = F6.eval (.tmp 9) by rw [hF]; exact evO (by decide)).trans e9_6
  have e10_7 : F7.eval (.tmp 10) = .pointer (some ⟨B, 0, none⟩) := by rw [hF]; exact evS (by rw [z6]; decide)
  have HF7 := Lib.hid hF
  clear hF e1_6 e2_6 e6_6 e9_6
  refine tkT (i := 7) (oi := _) (v := .pointer (some ⟨B, 3, none⟩)) rfl (by kernel_rfl) (by kernel_rfl) (by kernel_rfl) (fun _ _ _ h => h) HS.out (wantedT rfl) (fun w _ => faT rfl e10_7 (by go_simp)) ?_
  intro F8 hF
  replace hF : F8 = F7.put (some 11) (.pointer (some ⟨B, 3, none⟩)) := hF
  have z8 : F8.tmps.size = 16 := by rw [hF]; simpa [Act.put] using z7
  have e1_8 := (show F8.eval (.tmp 1) = F7.eval (.tmp 1) by rw [hF]; exact evO (by decide)).trans e1_7
  have e2_8 := (show F8.eval (.tmp 2) = F7.eval (.tmp 2) by rw [hF]; exact evO (by decide)).trans e2_7
  have e6_8 := (show F8.eval (.tmp 6) = F7.eval (.tmp 6) by rw [hF]; exact evO (by decide)).trans e6_7
  have e9_8 := (show F8.eval (.tmp 9) = F7.eval (.tmp 9) by rw [hF]; exact evO (by decide)).trans e9_7
  have e11_8 : F8.eval (.tmp 11) = .pointer (some ⟨B, 3, none⟩) := by rw [hF]; exact evS (by rw [z7]; decide)
  have HF8 := Lib.hid hF
  clear hF e1_7 e2_7 e6_7 e9_7 e10_7
  refine tkT (i := 8) (oi := _) (v := .string n.f3) rfl (by kernel_rfl) (by kernel_rfl) (by kernel_rfl) (fun _ _ _ h => h) HS.out (wantedT rfl) (fun w hs => by have c1 := hs 3 (.string n.f3) rfl; simp only [Nat.zero_add] at c1; exact ldT rfl e11_8 (by go_simp)) ?_
  intro F9 hF
  replace hF : F9 = F8.put (some 12) (.string n.f3) := hF
  have z9 : F9.tmps.size = 16 := by rw [hF]; simpa [Act.put] using z8
  have e1_9 := (show F9.eval (.tmp 1) = F8.eval (.tmp 1) by rw [hF]; exact evO (by decide)).trans e1_8
  have e2_9 := (show F9.eval (.tmp 2) = F8.eval (.tmp 2) by rw [hF]; exact evO (by decide)).trans e2_8
  have e6_9 := (show F9.eval (.tmp 6) = F8.eval (.tmp 6) by rw [hF]; exact evO (by decide)).trans e6_8
  have e9_9 := (show F9.eval (.tmp 9) = F8.eval (.tmp 9) by rw [hF]; exact evO (by decide)).trans e9_8
  have e12_9 : F9.eval (.tmp 12) = .string n.f3 := by rw [hF]; exact evS (by rw [z8]; decide)
  have HF9 := Lib.hid hF
  clear hF e1_8 e2_8 e6_8 e9_8 e11_8
  refine tkT (i := 9) (oi := _) (v := .agg #[.int .i64 n.f1, .int .u64 n.f2, .string n.f3]) rfl (by kernel_rfl) (by kernel_rfl) (by kernel_rfl) (fun _ _ _ h => h) HS.out (wantedT rfl) (fun w hs => bdT rfl (vals := #[(0, .int .i64 n.f1), (1, .int .u64 n.f2), (2, .string n.f3)]) (by simp only [List.map_toArray, List.map_cons, List.map_nil, e6_9, e9_9, e12_9] <;> rfl) (by kernel_rfl) w) ?_
  intro F10 hF
  replace hF : F10 = F9.put (some 13) (.agg #[.int .i64 n.f1, .int .u64 n.f2, .string n.f3]) := hF
  have z10 : F10.tmps.size = 16 := by rw [hF]; simpa [Act.put] using z9
  have e1_10 := (show F10.eval (.tmp 1) = F9.eval (.tmp 1) by rw [hF]; exact evO (by decide)).trans e1_9
  have e2_10 := (show F10.eval (.tmp 2) = F9.eval (.tmp 2) by rw [hF]; exact evO (by decide)).trans e2_9
  have e13_10 : F10.eval (.tmp 13) = .agg #[.int .i64 n.f1, .int .u64 n.f2, .string n.f3] := by rw [hF]; exact evS (by rw [z9]; decide)
  have HF10 := Lib.hid hF
  clear hF e1_9 e2_9 e6_9 e9_9 e12_9
  refine tkT (i := 10) (oi := _) (v := .agg (ndc n ++ [.slice A ks.length c, av]).toArray) rfl (by kernel_rfl) (by kernel_rfl) (by kernel_rfl) (fun _ _ _ h => h) HS.out (wantedT rfl) (fun w hs => lrT rfl e1_10 hs (d := .struct gs) HGS.out rfl (by kernel_rfl)) ?_
  intro F11 hF
  replace hF : F11 = F10.put (some 14) (.agg (ndc n ++ [.slice A ks.length c, av]).toArray) := hF
  have z11 : F11.tmps.size = 16 := by rw [hF]; simpa [Act.put] using z10
  have e2_11 := (show F11.eval (.tmp 2) = F10.eval (.tmp 2) by rw [hF]; exact evO (by decide)).trans e2_10
  have e13_11 := (show F11.eval (.tmp 13) = F10.eval (.tmp 13) by rw [hF]; exact evO (by decide)).trans e13_10
  have e14_11 : F11.eval (.tmp 14) = .agg (ndc n ++ [.slice A ks.length c, av]).toArray := by rw [hF]; exact evS (by rw [z10]; decide)
  have HF11 := Lib.hid hF
  clear hF e1_10 e2_10 e13_10
  refine aloneT (i := 11) (oi := _) rfl (by kernel_rfl) (wantedT rfl) ?_
  refine wpCall (clT (f := 81) (args := #[.agg (ndc n ++ [.slice A ks.length c, av]).toArray]) rfl (by simp only [List.map_toArray, List.map_cons, List.map_nil, e14_11] <;> rfl) (fun args w => by kernel_rfl)) (fun v w' => v = .bool (rising ks) ∧ Qt w1.drew w') ((show Calls _ _ _ _ _ from by rw [← HCS.out]; exact rising_any (.mk n ks) cs ok w1.drew HM.out (HBR.out.qt HQ0.out.drew)).mono (by rintro e w' ⟨rfl, q⟩; exact ⟨_, rfl, rfl, q⟩)) ?_
  rintro v w2 ⟨rfl, q2⟩
  refine ⟨rangeQt HS.out q2, genT fun F12 hF => ?_⟩
  have HS := Lib.hid (rangeQt HS.out q2)
  replace hF : F12 = F11.put (some 15) (.bool (rising ks)) := hF
  have z12 : F12.tmps.size = 16 := by rw [hF]; simpa [Act.put] using z11
  have e2_12 := (show F12.eval (.tmp 2) = F11.eval (.tmp 2) by rw [hF]; exact evO (by decide)).trans e2_11
  have e13_12 := (show F12.eval (.tmp 13) = F11.eval (.tmp 13) by rw [hF]; exact evO (by decide)).trans e13_11
  have e15_12 : F12.eval (.tmp 15) = .bool (rising ks) := by rw [hF]; exact evS (by rw [z11]; decide)
  have HF12 := Lib.hid hF
  clear hF e2_11 e13_11 e14_11
  refine aloneT (i := 12) (oi := _) rfl (by kernel_rfl) (wantedT rfl) ?_
  refine wpStM rfl e2_12 e13_12 (cells := [.int .i64 n.f1, .int .u64 n.f2, .string n.f3]) (t := 96) (c := [.int .i64 0, .int .u64 0, .string ⟨#[]⟩]) ((show Blk w1.drew _ _ _ from HGG).qt q2) (by show 3 ≤ 3; decide) (by kernel_rfl) (by intro u hu; simp only [List.mem_cons, List.not_mem_nil, or_false] at hu; rcases hu with rfl | rfl | rfl <;> rfl) ?_
  intro w3 og3 hz3 hb3
  refine ⟨rangeOg HS.out og3 (by omega), genT fun F13 hF => ?_⟩
  have HS := Lib.hid (rangeOg HS.out og3 (by omega))
  replace hF : F13 = F12.put none (undef) := hF
  have z13 : F13.tmps.size = 16 := by rw [hF]; simpa [Act.put] using z12
  have e15_13 := (show F13.eval (.tmp 15) = F12.eval (.tmp 15) by rw [hF]; exact rfl).trans e15_12
  have HF13 := Lib.hid hF
  clear hF e2_12 e13_12 e15_12
  refine tkT (i := 13) (oi := _) (v := .bool (rising ks)) rfl (by kernel_rfl) (by kernel_rfl) (by kernel_rfl) (fun _ _ _ h => h) HS.out (wantedT rfl) (fun w _ => asT rfl e15_13 w) ?_
  intro F14 hF
  replace hF : F14 = F13.put (some 3) (.bool (rising ks)) := hF
  have z14 : F14.tmps.size = 16 := by rw [hF]; simpa [Act.put] using z13
  have HF14 := Lib.hid hF
  clear hF e15_13
  refine wpAnyH_done (by kernel_rfl) ?_ _
  rw [HF14.out, HF13.out, HF12.out, HF11.out, HF10.out, HF9.out, HF8.out, HF7.out, HF6.out, HF5.out, HF4.out, HF3.out, HF2.out, HF1.out, HA.out]
  simp only [Act.put, List.setIfInBounds_toArray, List.set_cons_succ, List.set_cons_zero]
  clear HF14 HF13 HF12 HF11 HF10 HF9 HF8 HF7 HF6 HF5 HF4 HF3 HF2 HF1 HA z14 z13 z12 z11 z10 z9 z8 z7 z6 z5 z4 z3 z2 z1 z0 
  try go_wp2
  refine bodyPost_ret (v := .tuple #[.agg #[.int .i64 n.f1, .int .u64 n.f2, .string n.f3], .bool (rising ks)]) (results_ct (cs := [.int .i64 n.f1, .int .u64 n.f2, .string n.f3]) rfl _ _ G (.struct rs) rfl (by first | exact hb3 | exact HB3.out) _ rfl HRS.out rfl (by kernel_rfl)) rfl ?_
  exact ⟨by first | rfl | simp_all, og3.qt (HQ0.out.drew.trans q2) (by have := HBW.out; have := HBB.out; omega)⟩

set_option maxRecDepth 100000 in
set_option maxHeartbeats 1000000 in
theorem kind4_any (n : Nd) (ks : List Tr) (cs : List Value) (ok : Nat → Prop) (w : World) (hm : (Tr.mk n ks).flat.length ≤ 1000000) (hbr : Br w ok cs (.mk n ks)) :
    Calls Try.prog 78 #[.agg cs.toArray] w fun e w' => e = .returned (.tuple #[.agg #[.int .i64 n.f1, .int .u64 n.f2, .string n.f3], .bool (true)]) ∧ Qt w w' := by
  obtain ⟨A, c, avA, avc, cf, hcs, h7, h1, h5, hc, hK, _⟩ := hbr.parts
  obtain ⟨rs, hrs⟩ : ∃ fs, Try.prog.underlying 96 = some (.struct fs) := ⟨_, Try.underlying96⟩
  obtain ⟨av, hav⟩ : ∃ av : Value, av = .slice avA (Tr.mk n ks).flat.length avc := ⟨_, rfl⟩
  rw [← hav] at hcs
  have hkn : ks.length ≤ 1000000 := by have e1 : (Tr.mk n ks).flat.length = (flats ks).length + 1 := by simp [Tr.flat]
                                       have := flats_len ks
                                       omega
  obtain ⟨B, hB⟩ : ∃ B, B = w.heap.size := ⟨_, rfl⟩
  have HRS := Lib.hid hrs
  have HCS := Lib.hid hcs
  have HBR := Lib.hid hbr
  have HM := Lib.hid hm
  clear hK hrs hcs hav h5 hbr hm
  have c1 : ∀ o, ((w.alloc (.cells cs.toArray 60)).alloc o).cell? ⟨w.heap.size, 1, none⟩ = some (.int .i64 n.f1) := fun o => cell_al (by rw [World.cell?_alloc_new, HCS.out]; rfl) (by simp) o
  have c2 : ∀ o, ((w.alloc (.cells cs.toArray 60)).alloc o).cell? ⟨w.heap.size, 2, none⟩ = some (.int .u64 n.f2) := fun o => cell_al (by rw [World.cell?_alloc_new, HCS.out]; rfl) (by simp) o
  have c3 : ∀ o, ((w.alloc (.cells cs.toArray 60)).alloc o).cell? ⟨w.heap.size, 3, none⟩ = some (.string n.f3) := fun o => cell_al (by rw [World.cell?_alloc_new, HCS.out]; rfl) (by simp) o
  have hg0 : Blk ((w.alloc (.cells cs.toArray 60)).alloc (.cells #[.int .i64 0, .int .u64 0, .string ⟨#[]⟩] 96)) (w.heap.size + 1) 96 [.int .i64 0, .int .u64 0, .string ⟨#[]⟩] := by
    have h := heap_alloc_new (w.alloc (.cells cs.toArray 60)) (.cells #[.int .i64 0, .int .u64 0, .string ⟨#[]⟩] 96)
    rw [show (w.alloc (.cells cs.toArray 60)).heap.size = w.heap.size + 1 from by simp] at h
    exact h
  have HG0 := Lib.hid hg0
  clear hg0 hB
  go_enter Try.func78, Try.ntmps78
  go_wp2_with (first
    | (refine armSt rfl 96 (.tmp 2) (.tmp 13) rfl (w.heap.size + 1) [.int .i64 n.f1, .int .u64 n.f2, .string n.f3] rfl rfl HG0.out (by kernel_rfl) rfl (by intro u hu; simp only [List.mem_cons, List.not_mem_nil, or_false] at hu; rcases hu with rfl | rfl | rfl <;> rfl) ?_; intro w3 og3 hz3 hb3; (have HB3 := Lib.hid hb3); (have HOG3 := Lib.hid og3); clear hb3 og3))
  refine bodyPost_ret (v := .tuple #[.agg #[.int .i64 n.f1, .int .u64 n.f2, .string n.f3], .bool true]) (results_ct (cs := [.int .i64 n.f1, .int .u64 n.f2, .string n.f3]) rfl _ _ (w.heap.size + 1) (.struct rs) rfl HB3.out _ rfl HRS.out rfl (by kernel_rfl)) rfl ?_
  exact ⟨rfl, HOG3.out.qt (((Qt.refl w).alloc _).alloc _) (by omega)⟩
end Go.Proofs.Ytipgpnkdgofdeaa.Tm
