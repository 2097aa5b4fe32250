import Derived.Test.YtipgpnkdgofdeaaTG
/-! order, printed by genord.py. -/
namespace Go.Proofs.Ytipgpnkdgofdeaa.Tm
open Go.RowKit Go.Proofs.Ytipgpnkdgofdeaa.Fl
set_option linter.unusedVariables false
set_option linter.unusedSimpArgs false

theorem or_new (w : World) (a b c d : Int) : ∀ j x, [a, b, c, d][j]? = some x → ∃ g off, (some ⟨w.heap.size, 0, none⟩ : Option Addr) = some ⟨g, off, none⟩ ∧ (w.alloc (.cells #[.int .i64 a, .int .i64 b, .int .i64 c, .int .i64 d] 3)).cell? ⟨g, off + j, none⟩ = some (.int .i64 x) := by
  intro j x h
  refine ⟨_, _, rfl, ?_⟩
  rw [World.cell?_alloc_new, Nat.zero_add]
  match j, h with
  | 0, h => cases h; rfl
  | 1, h => cases h; rfl
  | 2, h => cases h; rfl
  | 3, h => cases h; rfl
  | j + 4, h => simp at h

set_option maxRecDepth 100000 in
set_option maxHeartbeats 1000000 in
theorem order_step (n m : Nd) (ks js : List Tr) (cs ds : List Value) (ok ok' : Nat → Prop) (w : World) (ha : Br w ok cs (.mk n ks)) (hb : Br w ok' ds (.mk m js)) (K : List Tr → List Tr → Int)
    (hcf : ∀ (A : Option Addr) (c : Nat) (B : Option Addr) (d : Nat) (w1 : World), Qt w w1 → cs[5]? = some (.slice A ks.length c) → ds[5]? = some (.slice B js.length d) →
      Calls Try.prog 68 #[.slice A ks.length c, .slice B js.length d, .func (.func 43) #[] #[]] w1 fun e w' => e = .returned (.int .i64 (K ks js)) ∧ Qt w1 w') :
    Calls Try.prog 43 #[.agg cs.toArray, .agg ds.toArray] w fun e w' => e = .returned (.int .i64 (if ncmp n m = 0 then K ks js else ncmp n m)) ∧ Qt w w' := by
  obtain ⟨A, c, avA, avc, cf, hcs, h7, h1, h5, hc, hK, _⟩ := ha.parts
  obtain ⟨B, d, bvB, bvc, df, hds, i7, i1, i5, hd, hL, _⟩ := hb.parts
  obtain ⟨fs, hfs⟩ : ∃ fs, Try.prog.underlying 32 = some (.struct fs) := ⟨_, Try.underlying32⟩
  have HCF := Lib.hid (fun w1 q => hcf A c B d w1 q h5 i5)
  have HFS := Lib.hid hfs
  have HCS := Lib.hid hcs
  have HDS := Lib.hid hds
  have HC5 := Lib.hid h5
  have HD5 := Lib.hid i5
  clear ha hb hK hL hcf hfs hcs hds h5 i5
  go_enter Try.func43, Try.ntmps43
  go_wp2
  have hb2 : Blk ((w.alloc (.cells cs.toArray 60)).alloc (.cells ds.toArray 60)) w.heap.size 60 cs := (show Blk (w.alloc (.cells cs.toArray 60)) _ _ cs from heap_alloc_new w _).alloc _
  have hb3 : Blk ((w.alloc (.cells cs.toArray 60)).alloc (.cells ds.toArray 60)) (w.heap.size + 1) 60 ds := by
    have h := heap_alloc_new (w.alloc (.cells cs.toArray 60)) (.cells ds.toArray 60)
    rw [show (w.alloc (.cells cs.toArray 60)).heap.size = w.heap.size + 1 from by simp] at h
    exact h
  have hq1 : Qt w ((w.alloc (.cells cs.toArray 60)).alloc (.cells ds.toArray 60)) := ((Qt.refl w).alloc _).alloc _
  generalize ((w.alloc (.cells cs.toArray 60)).alloc (.cells ds.toArray 60)) = w1 at hb2 hb3 hq1 ⊢
  have HB2 := Lib.hid hb2
  have HB3 := Lib.hid hb3
  have HQ1 := Lib.hid hq1
  have HLT := Lib.hid (show w.heap.size + 1 < w1.drew.heap.size from hb3.lt)
  have HRN := Lib.hid (show w1.drew.rangeAt w.heap.size 0 (ndc n) from (show Blk w1.drew _ _ _ from hb2).range 0 (ndc n) (by rw [HCS.out]; rfl))
  have HRM := Lib.hid (show w1.drew.rangeAt (w.heap.size + 1) 0 (ndc m) from (show Blk w1.drew _ _ _ from hb3).range 0 (ndc m) (by rw [HDS.out]; rfl))
  clear hb2 hb3 hq1
  refine Code.wp_mono (Q := fun e a' w2 => e = .normal ∧ ∃ g5 g6, a' = (⟨#[.agg cs.toArray, .agg ds.toArray, .pointer (some ⟨w.heap.size, 0, none⟩), .pointer (some ⟨w.heap.size + 1, 0, none⟩), .int .i64 0, .pointer (some ⟨g5, 0, none⟩), .pointer (some ⟨g6, 0, none⟩), undef, .pointer (some ⟨w.heap.size, 0, none⟩), .agg (ndc n).toArray, .pointer (some ⟨w.heap.size + 1, 0, none⟩), .agg (ndc m).toArray, undef, undef, undef, undef, undef, undef, undef, undef, undef, undef, undef, undef, undef, undef, undef, undef, undef, undef, undef, undef, undef, undef, undef, undef, undef, undef, undef, undef, undef, undef], []⟩ : Act) ∧ Blk w2 g5 32 (ndc n) ∧ Blk w2 g6 32 (ndc m) ∧ Qt w1 w2) (fun e a' w2 hrel => ?_) ?_
  rotate_left
  · skip
    refine wp_region_held (S := (fun u => u.rangeAt w.heap.size 0 (ndc n) ∧ u.rangeAt (w.heap.size + 1) 0 (ndc m))) (by kernel_rfl) ?_
    change wpAnyH _ _ _ _ _ _ _ _ (World.drew _)
    refine genT fun F0 hA => ?_
    have z0 : F0.tmps.size = 42 := by rw [hA]; rfl
    have e2_0 : F0.eval (.tmp 2) = .pointer (some ⟨w.heap.size, 0, none⟩) := by rw [hA]; rfl
    have e3_0 : F0.eval (.tmp 3) = .pointer (some ⟨w.heap.size + 1, 0, none⟩) := by rw [hA]; rfl
    have HA := Lib.hid hA
    clear hA
    have HS := Lib.hid (show World.rangeAt (World.drew _) _ _ _ ∧ World.rangeAt (World.drew _) _ _ _ from ⟨HRN.out, HRM.out⟩)
    refine tkT (i := 0) (oi := _) (v := .pointer (some ⟨w.heap.size, 0, none⟩)) rfl (by kernel_rfl) (by kernel_rfl) (by kernel_rfl) (fun _ _ _ h => absurd h.1 nofun) HS.out (wantedT rfl) (fun w _ => faT rfl e2_0 (by go_simp)) ?_
    intro F1 hF
    replace hF : F1 = F0.put (some 8) (.pointer (some ⟨w.heap.size, 0, none⟩)) := hF
    have z1 : F1.tmps.size = 42 := by rw [hF]; simpa [Act.put] using z0
    have e3_1 := (show F1.eval (.tmp 3) = F0.eval (.tmp 3) by rw [hF]; exact evO (by decide)).trans e3_0
    have e8_1 : F1.eval (.tmp 8) = .pointer (some ⟨w.heap.size, 0, none⟩) := by rw [hF]; exact evS (by rw [z0]; decide)
    have HF1 := Lib.hid hF
    clear hF e2_0 e3_0
    refine tkT (i := 1) (oi := _) (v := .agg (ndc n).toArray) rfl (by kernel_rfl) (by kernel_rfl) (by kernel_rfl) (fun _ _ _ h => absurd h.1 nofun) HS.out (wantedT rfl) (fun w hs => lrT rfl e8_1 hs.1 (d := .struct fs) HFS.out rfl (by kernel_rfl)) ?_
    intro F2 hF
    replace hF : F2 = F1.put (some 9) (.agg (ndc n).toArray) := hF
    have z2 : F2.tmps.size = 42 := by rw [hF]; simpa [Act.put] using z1
    have e3_2 := (show F2.eval (.tmp 3) = F1.eval (.tmp 3) by rw [hF]; exact evO (by decide)).trans e3_1
    have e9_2 : F2.eval (.tmp 9) = .agg (ndc n).toArray := by rw [hF]; exact evS (by rw [z1]; decide)
    have HF2 := Lib.hid hF
    clear hF e3_1 e8_1
    refine tkT (i := 2) (oi := _) (v := .pointer (some ⟨w.heap.size + 1, 0, none⟩)) rfl (by kernel_rfl) (by kernel_rfl) (by kernel_rfl) (fun _ _ _ h => absurd h.1 nofun) HS.out (wantedT rfl) (fun w _ => faT rfl e3_2 (by go_simp)) ?_
    intro F3 hF
    replace hF : F3 = F2.put (some 10) (.pointer (some ⟨w.heap.size + 1, 0, none⟩)) := hF
    have z3 : F3.tmps.size = 42 := by rw [hF]; simpa [Act.put] using z2
    have e9_3 := (show F3.eval (.tmp 9) = F2.eval (.tmp 9) by rw [hF]; exact evO (by decide)).trans e9_2
    have e10_3 : F3.eval (.tmp 10) = .pointer (some ⟨w.heap.size + 1, 0, none⟩) := by rw [hF]; exact evS (by rw [z2]; decide)
    have HF3 := Lib.hid hF
    clear hF e3_2 e9_2
    refine tkT (i := 3) (oi := _) (v := .agg (ndc m).toArray) rfl (by kernel_rfl) (by kernel_rfl) (by kernel_rfl) (fun _ _ _ h => absurd h.1 nofun) HS.out (wantedT rfl) (fun w hs => lrT rfl e10_3 hs.2 (d := .struct fs) HFS.out rfl (by kernel_rfl)) ?_
    intro F4 hF
    replace hF : F4 = F3.put (some 11) (.agg (ndc m).toArray) := hF
    have z4 : F4.tmps.size = 42 := by rw [hF]; simpa [Act.put] using z3
    have e9_4 := (show F4.eval (.tmp 9) = F3.eval (.tmp 9) by rw [hF]; exact evO (by decide)).trans e9_3
    have e11_4 : F4.eval (.tmp 11) = .agg (ndc m).toArray := by rw [hF]; exact evS (by rw [z3]; decide)
    have HF4 := Lib.hid hF
    clear hF e9_3 e10_3
    refine wpAnyH_all (rs := [4, 5]) (by kernel_rfl) (by simp) ?_
    intro j hj
    simp only [List.mem_cons, List.not_mem_nil, or_false] at hj
    rcases hj with rfl | rfl
    ·
      refine manyT (i := 4) (oi := _) rfl (wantedT rfl) ?_
      refine wpAl rfl [.int .i64 0, .int .i64 0, .int .u64 0, .string ⟨#[]⟩, .int .i64 0] (fun w => by go_simp) ?_
      intro g5 w_g5 qa_g5 sa_g5 ba_g5
      refine ⟨And.intro (rangeQt HS.out.1 qa_g5) (rangeQt HS.out.2 qa_g5), genT fun F5 hF => ?_⟩
      have HS := Lib.hid (And.intro (rangeQt HS.out.1 qa_g5) (rangeQt HS.out.2 qa_g5))
      replace hF : F5 = F4.put (some 5) (.pointer (some ⟨g5, 0, none⟩)) := hF
      have z5 : F5.tmps.size = 42 := by rw [hF]; simpa [Act.put] using z4
      have e5_5 : F5.eval (.tmp 5) = .pointer (some ⟨g5, 0, none⟩) := by rw [hF]; exact evS (by rw [z4]; decide)
      have e9_5 := (show F5.eval (.tmp 9) = F4.eval (.tmp 9) by rw [hF]; exact evO (by decide)).trans e9_4
      have e11_5 := (show F5.eval (.tmp 11) = F4.eval (.tmp 11) by rw [hF]; exact evO (by decide)).trans e11_4
      have HF5 := Lib.hid hF
      clear hF e9_4 e11_4
      refine aloneT (i := 5) (oi := _) rfl (by kernel_rfl) (wantedT rfl) ?_
      refine wpAl rfl [.int .i64 0, .int .i64 0, .int .u64 0, .string ⟨#[]⟩, .int .i64 0] (fun w => by go_simp) ?_
      intro g6 w_g6 qa_g6 sa_g6 ba_g6
      refine ⟨And.intro (rangeQt HS.out.1 qa_g6) (rangeQt HS.out.2 qa_g6), genT fun F6 hF => ?_⟩
      have HS := Lib.hid (And.intro (rangeQt HS.out.1 qa_g6) (rangeQt HS.out.2 qa_g6))
      replace hF : F6 = F5.put (some 6) (.pointer (some ⟨g6, 0, none⟩)) := hF
      have z6 : F6.tmps.size = 42 := by rw [hF]; simpa [Act.put] using z5
      have e5_6 := (show F6.eval (.tmp 5) = F5.eval (.tmp 5) by rw [hF]; exact evO (by decide)).trans e5_5
      have e6_6 : F6.eval (.tmp 6) = .pointer (some ⟨g6, 0, none⟩) := by rw [hF]; exact evS (by rw [z5]; decide)
      have e9_6 := (show F6.eval (.tmp 9) = F5.eval (.tmp 9) by rw [hF]; exact evO (by decide)).trans e9_5
      have e11_6 := (show F6.eval (.tmp 11) = F5.eval (.tmp 11) by rw [hF]; exact evO (by decide)).trans e11_5
      have HF6 := Lib.hid hF
      clear hF e5_5 e9_5 e11_5
      refine aloneT (i := 6) (oi := _) rfl (by kernel_rfl) (wantedT rfl) ?_
      refine wpStM rfl e5_6 e9_6 (t := 32) (c := [.int .i64 0, .int .i64 0, .int .u64 0, .string ⟨#[]⟩, .int .i64 0]) (by first | exact ba_g5.qt qa_g6 | exact ba_g5) (by show 5 ≤ 5; decide) (by kernel_rfl) (ndc_one n) ?_
      intro w7 og7 hz7 hb7
      refine ⟨And.intro (rangeOg HS.out.1 og7 (by have := HLT.out; first | omega | (have := qa_g5.size; omega) | (have := qa_g6.size; omega))) (rangeOg HS.out.2 og7 (by have := HLT.out; first | omega | (have := qa_g5.size; omega) | (have := qa_g6.size; omega))), genT fun F7 hF => ?_⟩
      have HS := Lib.hid (And.intro (rangeOg HS.out.1 og7 (by have := HLT.out; first | omega | (have := qa_g5.size; omega) | (have := qa_g6.size; omega))) (rangeOg HS.out.2 og7 (by have := HLT.out; first | omega | (have := qa_g5.size; omega) | (have := qa_g6.size; omega))))
      replace hF : F7 = F6.put none (undef) := hF
      have z7 : F7.tmps.size = 42 := by rw [hF]; simpa [Act.put] using z6
      have e6_7 := (show F7.eval (.tmp 6) = F6.eval (.tmp 6) by rw [hF]; exact rfl).trans e6_6
      have e11_7 := (show F7.eval (.tmp 11) = F6.eval (.tmp 11) by rw [hF]; exact rfl).trans e11_6
      have HF7 := Lib.hid hF
      clear hF e5_6 e6_6 e9_6 e11_6
      refine aloneT (i := 7) (oi := _) rfl (by kernel_rfl) (wantedT rfl) ?_
      refine wpStM rfl e6_7 e11_7 (t := 32) (c := [.int .i64 0, .int .i64 0, .int .u64 0, .string ⟨#[]⟩, .int .i64 0]) ((show Blk _ g6 _ _ by first | exact ba_g6.qt qa_g5 | exact ba_g6).og og7 (by first | (have := ba_g5.lt; omega) | (have := ba_g6.lt; omega))) (by show 5 ≤ 5; decide) (by kernel_rfl) (ndc_one m) ?_
      intro w8 og8 hz8 hb8
      refine ⟨And.intro (rangeOg HS.out.1 og8 (by have := HLT.out; first | omega | (have := qa_g5.size; omega) | (have := qa_g6.size; omega))) (rangeOg HS.out.2 og8 (by have := HLT.out; first | omega | (have := qa_g5.size; omega) | (have := qa_g6.size; omega))), genT fun F8 hF => ?_⟩
      have HS := Lib.hid (And.intro (rangeOg HS.out.1 og8 (by have := HLT.out; first | omega | (have := qa_g5.size; omega) | (have := qa_g6.size; omega))) (rangeOg HS.out.2 og8 (by have := HLT.out; first | omega | (have := qa_g5.size; omega) | (have := qa_g6.size; omega))))
      replace hF : F8 = F7.put none (undef) := hF
      have z8 : F8.tmps.size = 42 := by rw [hF]; simpa [Act.put] using z7
      have HF8 := Lib.hid hF
      clear hF e6_7 e11_7
      refine wpAnyH_done (by kernel_rfl) ?_ _
      have hE : F8 = (⟨#[.agg cs.toArray, .agg ds.toArray, .pointer (some ⟨w.heap.size, 0, none⟩), .pointer (some ⟨w.heap.size + 1, 0, none⟩), .int .i64 0, .pointer (some ⟨g5, 0, none⟩), .pointer (some ⟨g6, 0, none⟩), undef, .pointer (some ⟨w.heap.size, 0, none⟩), .agg (ndc n).toArray, .pointer (some ⟨w.heap.size + 1, 0, none⟩), .agg (ndc m).toArray, undef, undef, undef, undef, undef, undef, undef, undef, undef, undef, undef, undef, undef, undef, undef, undef, undef, undef, undef, undef, undef, undef, undef, undef, undef, undef, undef, undef, undef, undef], []⟩ : Act) := by
        rw [HF8.out, HF7.out, HF6.out, HF5.out, HF4.out, HF3.out, HF2.out, HF1.out, HA.out]
        kernel_rfl
      rw [hE]
      clear hE HF8 HF7 HF6 HF5 HF4 HF3 HF2 HF1 HA z8 z7 z6 z5 z4 z3 z2 z1 z0 
      have hb7' : Blk w8 g5 32 (ndc n) := (show Blk w7 g5 32 (ndc n) from hb7).og og8 (by first | (have := ba_g5.lt; omega) | (have := ba_g6.lt; omega))
      exact ⟨rfl, g5, g6, rfl, hb7', hb8, og8.qt (og7.qt (by first | exact ((Qt.refl w1).drew.trans qa_g5).trans qa_g6 | exact ((Qt.refl w1).drew.trans qa_g6).trans qa_g5) (by show w1.drew.heap.size ≤ _; have := qa_g5.size; have := qa_g6.size; omega)) (by show w1.drew.heap.size ≤ _; have := qa_g5.size; have := qa_g6.size; omega)⟩
    ·
      refine manyT (i := 5) (oi := _) rfl (wantedT rfl) ?_
      refine wpAl rfl [.int .i64 0, .int .i64 0, .int .u64 0, .string ⟨#[]⟩, .int .i64 0] (fun w => by go_simp) ?_
      intro g6 w_g6 qa_g6 sa_g6 ba_g6
      refine ⟨And.intro (rangeQt HS.out.1 qa_g6) (rangeQt HS.out.2 qa_g6), genT fun F5 hF => ?_⟩
      have HS := Lib.hid (And.intro (rangeQt HS.out.1 qa_g6) (rangeQt HS.out.2 qa_g6))
      replace hF : F5 = F4.put (some 6) (.pointer (some ⟨g6, 0, none⟩)) := hF
      have z5 : F5.tmps.size = 42 := by rw [hF]; simpa [Act.put] using z4
      have e6_5 : F5.eval (.tmp 6) = .pointer (some ⟨g6, 0, none⟩) := by rw [hF]; exact evS (by rw [z4]; decide)
      have e9_5 := (show F5.eval (.tmp 9) = F4.eval (.tmp 9) by rw [hF]; exact evO (by decide)).trans e9_4
      have e11_5 := (show F5.eval (.tmp 11) = F4.eval (.tmp 11) by rw [hF]; exact evO (by decide)).trans e11_4
      have HF5 := Lib.hid hF
      clear hF e9_4 e11_4
      refine aloneT (i := 4) (oi := _) rfl (by kernel_rfl) (wantedT rfl) ?_
      refine wpAl rfl [.int .i64 0, .int .i64 0, .int .u64 0, .string ⟨#[]⟩, .int .i64 0] (fun w => by go_simp) ?_
      intro g5 w_g5 qa_g5 sa_g5 ba_g5
      refine ⟨And.intro (rangeQt HS.out.1 qa_g5) (rangeQt HS.out.2 qa_g5), genT fun F6 hF => ?_⟩
      have HS := Lib.hid (And.intro (rangeQt HS.out.1 qa_g5) (rangeQt HS.out.2 qa_g5))
      replace hF : F6 = F5.put (some 5) (.pointer (some ⟨g5, 0, none⟩)) := hF
      have z6 : F6.tmps.size = 42 := by rw [hF]; simpa [Act.put] using z5
      have e5_6 : F6.eval (.tmp 5) = .pointer (some ⟨g5, 0, none⟩) := by rw [hF]; exact evS (by rw [z5]; decide)
      have e6_6 := (show F6.eval (.tmp 6) = F5.eval (.tmp 6) by rw [hF]; exact evO (by decide)).trans e6_5
      have e9_6 := (show F6.eval (.tmp 9) = F5.eval (.tmp 9) by rw [hF]; exact evO (by decide)).trans e9_5
      have e11_6 := (show F6.eval (.tmp 11) = F5.eval (.tmp 11) by rw [hF]; exact evO (by decide)).trans e11_5
      have HF6 := Lib.hid hF
      clear hF e6_5 e9_5 e11_5
      refine aloneT (i := 6) (oi := _) rfl (by kernel_rfl) (wantedT rfl) ?_
      refine wpStM rfl e5_6 e9_6 (t := 32) (c := [.int .i64 0, .int .i64 0, .int .u64 0, .string ⟨#[]⟩, .int .i64 0]) (by first | exact ba_g5.qt qa_g6 | exact ba_g5) (by show 5 ≤ 5; decide) (by kernel_rfl) (ndc_one n) ?_
      intro w7 og7 hz7 hb7
      refine ⟨And.intro (rangeOg HS.out.1 og7 (by have := HLT.out; first | omega | (have := qa_g5.size; omega) | (have := qa_g6.size; omega))) (rangeOg HS.out.2 og7 (by have := HLT.out; first | omega | (have := qa_g5.size; omega) | (have := qa_g6.size; omega))), genT fun F7 hF => ?_⟩
      have HS := Lib.hid (And.intro (rangeOg HS.out.1 og7 (by have := HLT.out; first | omega | (have := qa_g5.size; omega) | (have := qa_g6.size; omega))) (rangeOg HS.out.2 og7 (by have := HLT.out; first | omega | (have := qa_g5.size; omega) | (have := qa_g6.size; omega))))
      replace hF : F7 = F6.put none (undef) := hF
      have z7 : F7.tmps.size = 42 := by rw [hF]; simpa [Act.put] using z6
      have e6_7 := (show F7.eval (.tmp 6) = F6.eval (.tmp 6) by rw [hF]; exact rfl).trans e6_6
      have e11_7 := (show F7.eval (.tmp 11) = F6.eval (.tmp 11) by rw [hF]; exact rfl).trans e11_6
      have HF7 := Lib.hid hF
      clear hF e5_6 e6_6 e9_6 e11_6
      refine aloneT (i := 7) (oi := _) rfl (by kernel_rfl) (wantedT rfl) ?_
      refine wpStM rfl e6_7 e11_7 (t := 32) (c := [.int .i64 0, .int .i64 0, .int .u64 0, .string ⟨#[]⟩, .int .i64 0]) ((show Blk _ g6 _ _ by first | exact ba_g6.qt qa_g5 | exact ba_g6).og og7 (by first | (have := ba_g5.lt; omega) | (have := ba_g6.lt; omega))) (by show 5 ≤ 5; decide) (by kernel_rfl) (ndc_one m) ?_
      intro w8 og8 hz8 hb8
      refine ⟨And.intro (rangeOg HS.out.1 og8 (by have := HLT.out; first | omega | (have := qa_g5.size; omega) | (have := qa_g6.size; omega))) (rangeOg HS.out.2 og8 (by have := HLT.out; first | omega | (have := qa_g5.size; omega) | (have := qa_g6.size; omega))), genT fun F8 hF => ?_⟩
      have HS := Lib.hid (And.intro (rangeOg HS.out.1 og8 (by have := HLT.out; first | omega | (have := qa_g5.size; omega) | (have := qa_g6.size; omega))) (rangeOg HS.out.2 og8 (by have := HLT.out; first | omega | (have := qa_g5.size; omega) | (have := qa_g6.size; omega))))
      replace hF : F8 = F7.put none (undef) := hF
      have z8 : F8.tmps.size = 42 := by rw [hF]; simpa [Act.put] using z7
      have HF8 := Lib.hid hF
      clear hF e6_7 e11_7
      refine wpAnyH_done (by kernel_rfl) ?_ _
      have hE : F8 = (⟨#[.agg cs.toArray, .agg ds.toArray, .pointer (some ⟨w.heap.size, 0, none⟩), .pointer (some ⟨w.heap.size + 1, 0, none⟩), .int .i64 0, .pointer (some ⟨g5, 0, none⟩), .pointer (some ⟨g6, 0, none⟩), undef, .pointer (some ⟨w.heap.size, 0, none⟩), .agg (ndc n).toArray, .pointer (some ⟨w.heap.size + 1, 0, none⟩), .agg (ndc m).toArray, undef, undef, undef, undef, undef, undef, undef, undef, undef, undef, undef, undef, undef, undef, undef, undef, undef, undef, undef, undef, undef, undef, undef, undef, undef, undef, undef, undef, undef, undef], []⟩ : Act) := by
        rw [HF8.out, HF7.out, HF6.out, HF5.out, HF4.out, HF3.out, HF2.out, HF1.out, HA.out]
        kernel_rfl
      rw [hE]
      clear hE HF8 HF7 HF6 HF5 HF4 HF3 HF2 HF1 HA z8 z7 z6 z5 z4 z3 z2 z1 z0 
      have hb7' : Blk w8 g5 32 (ndc n) := (show Blk w7 g5 32 (ndc n) from hb7).og og8 (by first | (have := ba_g5.lt; omega) | (have := ba_g6.lt; omega))
      exact ⟨rfl, g5, g6, rfl, hb7', hb8, og8.qt (og7.qt (by first | exact ((Qt.refl w1).drew.trans qa_g5).trans qa_g6 | exact ((Qt.refl w1).drew.trans qa_g6).trans qa_g5) (by show w1.drew.heap.size ≤ _; have := qa_g5.size; have := qa_g6.size; omega)) (by show w1.drew.heap.size ≤ _; have := qa_g5.size; have := qa_g6.size; omega)⟩
  obtain ⟨rfl, g5, g6, rfl, hb5, hb6, hq2⟩ := hrel
  have HB5 := Lib.hid hb5
  have HB6 := Lib.hid hb6
  have HQ2 := Lib.hid hq2
  clear hb5 hb6 hq2 HRN HRM HLT
  go_wp2
  refine wp_region_held (S := (fun u => u.rangeAt g5 0 (ndc n) ∧ u.rangeAt g6 0 (ndc m))) (by kernel_rfl) ?_
  change wpAnyH _ _ _ _ _ _ _ _ (World.drew _)
  refine genT fun F0 hA => ?_
  have z0 : F0.tmps.size = 42 := by rw [hA]; rfl
  have e5_0 : F0.eval (.tmp 5) = .pointer (some ⟨g5, 0, none⟩) := by rw [hA]; rfl
  have e6_0 : F0.eval (.tmp 6) = .pointer (some ⟨g6, 0, none⟩) := by rw [hA]; rfl
  have HA := Lib.hid hA
  clear hA
  have HS := Lib.hid (show World.rangeAt (World.drew _) _ _ _ ∧ World.rangeAt (World.drew _) _ _ _ from ⟨HB5.out.range 0 (ndc n) rfl, HB6.out.range 0 (ndc m) rfl⟩)
  refine tkT (i := 0) (oi := _) (v := .pointer (some ⟨g5, 0, none⟩)) rfl (by kernel_rfl) (by kernel_rfl) (by kernel_rfl) (fun _ _ _ h => h) HS.out (wantedT rfl) (fun w _ => faT rfl e5_0 (by go_simp)) ?_
  intro F1 hF
  replace hF : F1 = F0.put (some 12) (.pointer (some ⟨g5, 0, none⟩)) := hF
  have z1 : F1.tmps.size = 42 := by rw [hF]; simpa [Act.put] using z0
  have e5_1 := (show F1.eval (.tmp 5) = F0.eval (.tmp 5) by rw [hF]; exact evO (by decide)).trans e5_0
  have e6_1 := (show F1.eval (.tmp 6) = F0.eval (.tmp 6) by rw [hF]; exact evO (by decide)).trans e6_0
  have e12_1 : F1.eval (.tmp 12) = .pointer (some ⟨g5, 0, none⟩) := by rw [hF]; exact evS (by rw [z0]; decide)
  have HF1 := Lib.hid hF
  clear hF e5_0 e6_0
  refine tkT (i := 1) (oi := _) (v := .int .i64 n.f0) rfl (by kernel_rfl) (by kernel_rfl) (by kernel_rfl) (fun _ _ _ h => h) HS.out (wantedT rfl) (fun w hs => by have c1 := hs.1 0 (.int .i64 n.f0) rfl; simp only [Nat.zero_add] at c1; exact ldT rfl e12_1 (by go_simp)) ?_
  intro F2 hF
  replace hF : F2 = F1.put (some 13) (.int .i64 n.f0) := hF
  have z2 : F2.tmps.size = 42 := by rw [hF]; simpa [Act.put] using z1
  have e5_2 := (show F2.eval (.tmp 5) = F1.eval (.tmp 5) by rw [hF]; exact evO (by decide)).trans e5_1
  have e6_2 := (show F2.eval (.tmp 6) = F1.eval (.tmp 6) by rw [hF]; exact evO (by decide)).trans e6_1
  have e13_2 : F2.eval (.tmp 13) = .int .i64 n.f0 := by rw [hF]; exact evS (by rw [z1]; decide)
  have HF2 := Lib.hid hF
  clear hF e5_1 e6_1 e12_1
  refine tkT (i := 2) (oi := _) (v := .pointer (some ⟨g6, 0, none⟩)) rfl (by kernel_rfl) (by kernel_rfl) (by kernel_rfl) (fun _ _ _ h => h) HS.out (wantedT rfl) (fun w _ => faT rfl e6_2 (by go_simp)) ?_
  intro F3 hF
  replace hF : F3 = F2.put (some 14) (.pointer (some ⟨g6, 0, none⟩)) := hF
  have z3 : F3.tmps.size = 42 := by rw [hF]; simpa [Act.put] using z2
  have e5_3 := (show F3.eval (.tmp 5) = F2.eval (.tmp 5) by rw [hF]; exact evO (by decide)).trans e5_2
  have e6_3 := (show F3.eval (.tmp 6) = F2.eval (.tmp 6) by rw [hF]; exact evO (by decide)).trans e6_2
  have e13_3 := (show F3.eval (.tmp 13) = F2.eval (.tmp 13) by rw [hF]; exact evO (by decide)).trans e13_2
  have e14_3 : F3.eval (.tmp 14) = .pointer (some ⟨g6, 0, none⟩) := by rw [hF]; exact evS (by rw [z2]; decide)
  have HF3 := Lib.hid hF
  clear hF e5_2 e6_2 e13_2
  refine tkT (i := 3) (oi := _) (v := .int .i64 m.f0) rfl (by kernel_rfl) (by kernel_rfl) (by kernel_rfl) (fun _ _ _ h => h) HS.out (wantedT rfl) (fun w hs => by have c1 := hs.2 0 (.int .i64 m.f0) rfl; simp only [Nat.zero_add] at c1; exact ldT rfl e14_3 (by go_simp)) ?_
  intro F4 hF
  replace hF : F4 = F3.put (some 15) (.int .i64 m.f0) := hF
  have z4 : F4.tmps.size = 42 := by rw [hF]; simpa [Act.put] using z3
  have e5_4 := (show F4.eval (.tmp 5) = F3.eval (.tmp 5) by rw [hF]; exact evO (by decide)).trans e5_3
  have e6_4 := (show F4.eval (.tmp 6) = F3.eval (.tmp 6) by rw [hF]; exact evO (by decide)).trans e6_3
  have e13_4 := (show F4.eval (.tmp 13) = F3.eval (.tmp 13) by rw [hF]; exact evO (by decide)).trans e13_3
  have e15_4 : F4.eval (.tmp 15) = .int .i64 m.f0 := by rw [hF]; exact evS (by rw [z3]; decide)
  have HF4 := Lib.hid hF
  clear hF e5_3 e6_3 e13_3 e14_3
  refine tkT (i := 5) (oi := _) (v := .pointer (some ⟨g5, 1, none⟩)) rfl (by kernel_rfl) (by kernel_rfl) (by kernel_rfl) (fun _ _ _ h => h) HS.out (wantedT rfl) (fun w _ => faT rfl e5_4 (by go_simp)) ?_
  intro F5 hF
  replace hF : F5 = F4.put (some 17) (.pointer (some ⟨g5, 1, none⟩)) := hF
  have z5 : F5.tmps.size = 42 := by rw [hF]; simpa [Act.put] using z4
  have e5_5 := (show F5.eval (.tmp 5) = F4.eval (.tmp 5) by rw [hF]; exact evO (by decide)).trans e5_4
  have e6_5 := (show F5.eval (.tmp 6) = F4.eval (.tmp 6) by rw [hF]; exact evO (by decide)).trans e6_4
  have e13_5 := (show F5.eval (.tmp 13) = F4.eval (.tmp 13) by rw [hF]; exact evO (by decide)).trans e13_4
  have e15_5 := (show F5.eval (.tmp 15) = F4.eval (.tmp 15) by rw [hF]; exact evO (by decide)).trans e15_4
  have e17_5 : F5.eval (.tmp 17) = .pointer (some ⟨g5, 1, none⟩) := by rw [hF]; exact evS (by rw [z4]; decide)
  have HF5 := Lib.hid hF
  clear hF e5_4 e6_4 e13_4 e15_4
  refine tkT (i := 6) (oi := _) (v := .int .i64 n.f1) rfl (by kernel_rfl) (by kernel_rfl) (by kernel_rfl) (fun _ _ _ h => h) HS.out (wantedT rfl) (fun w hs => by have c1 := hs.1 1 (.int .i64 n.f1) rfl; simp only [Nat.zero_add] at c1; exact ldT rfl e17_5 (by go_simp)) ?_
  intro F6 hF
  replace hF : F6 = F5.put (some 18) (.int .i64 n.f1) := hF
  have z6 : F6.tmps.size = 42 := by rw [hF]; simpa [Act.put] using z5
  have e5_6 := (show F6.eval (.tmp 5) = F5.eval (.tmp 5) by rw [hF]; exact evO (by decide)).trans e5_5
  have e6_6 := (show F6.eval (.tmp 6) = F5.eval (.tmp 6) by rw [hF]; exact evO (by decide)).trans e6_5
  have e13_6 := (show F6.eval (.tmp 13) = F5.eval (.tmp 13) by rw [hF]; exact evO (by decide)).trans e13_5
  have e15_6 := (show F6.eval (.tmp 15) = F5.eval (.tmp 15) by rw [hF]; exact evO (by decide)).trans e15_5
  have e18_6 : F6.eval (.tmp 18) = .int .i64 n.f1 := by rw [hF]; exact evS (by rw [z5]; decide)
  have HF6 := Lib.hid hF
  clear hF e5_5 e6_5 e13_5 e15_5 e17_5
  refine tkT (i := 7) (oi := _) (v := .pointer (some ⟨g6, 1, none⟩)) rfl (by kernel_rfl) (by kernel_rfl) (by kernel_rfl) (fun _ _ _ h => h) HS.out (wantedT rfl) (fun w _ => faT rfl e6_6 (by go_simp)) ?_
  intro F7 hF
  replace hF : F7 = F6.put (some 19) (.pointer (some ⟨g6, 1, none⟩)) := hF
  have z7 : F7.tmps.size = 42 := by rw [hF]; simpa [Act.put] using z6
  have e5_7 := (show F7.eval (.tmp 5) = F6.eval (.tmp 5) by rw [hF]; exact evO (by decide)).trans e5_6
  have e6_7 := (show F7.eval (.tmp 6) = F6.eval (.tmp 6) by rw [hF]; exact evO (by decide)).trans e6_6
  have e13_7 := (show F7.eval (.tmp 13) = F6.eval (.tmp 13) by rw [hF]; exact evO (by decide)).trans e13_6
  have e15_7 := (show F7.eval (.tmp 15) = F6.eval (.tmp 15) by rw [hF]; exact evO (by decide)).trans e15_6
  have e18_7 := (show F7.eval (.tmp 18) = F6.eval (.tmp 18) by rw [hF]; exact evO (by decide)).trans e18_6
  have e19_7 : F7.eval (.tmp 19) = .pointer (some ⟨g6, 1, none⟩) := by rw [hF]; exact evS (by rw [z6]; decide)
  have HF7 := Lib.hid hF
  clear hF e5_6 e6_6 e13_6 e15_6 e18_6
  refine tkT (i := 8) (oi := _) (v := .int .i64 m.f1) rfl (by kernel_rfl) (by kernel_rfl) (by kernel_rfl) (fun _ _ _ h => h) HS.out (wantedT rfl) (fun w hs => by have c1 := hs.2 1 (.int .i64 m.f1) rfl; simp only [Nat.zero_add] at c1; exact ldT rfl e19_7 (by go_simp)) ?_
  intro F8 hF
  replace hF : F8 = F7.put (some 20) (.int .i64 m.f1) := hF
  have z8 : F8.tmps.size = 42 := by rw [hF]; simpa [Act.put] using z7
  have e5_8 := (show F8.eval (.tmp 5) = F7.eval (.tmp 5) by rw [hF]; exact evO (by decide)).trans e5_7
  have e6_8 := (show F8.eval (.tmp 6) = F7.eval (.tmp 6) by rw [hF]; exact evO (by decide)).trans e6_7
  have e13_8 := (show F8.eval (.tmp 13) = F7.eval (.tmp 13) by rw [hF]; exact evO (by decide)).trans e13_7
  have e15_8 := (show F8.eval (.tmp 15) = F7.eval (.tmp 15) by rw [hF]; exact evO (by decide)).trans e15_7
  have e18_8 := (show F8.eval (.tmp 18) = F7.eval (.tmp 18) by rw [hF]; exact evO (by decide)).trans e18_7
  have e20_8 : F8.eval (.tmp 20) = .int .i64 m.f1 := by rw [hF]; exact evS (by rw [z7]; decide)
  have HF8 := Lib.hid hF
  clear hF e5_7 e6_7 e13_7 e15_7 e18_7 e19_7
  refine tkT (i := 10) (oi := _) (v := .pointer (some ⟨g5, 2, none⟩)) rfl (by kernel_rfl) (by kernel_rfl) (by kernel_rfl) (fun _ _ _ h => h) HS.out (wantedT rfl) (fun w _ => faT rfl e5_8 (by go_simp)) ?_
  intro F9 hF
  replace hF : F9 = F8.put (some 22) (.pointer (some ⟨g5, 2, none⟩)) := hF
  have z9 : F9.tmps.size = 42 := by rw [hF]; simpa [Act.put] using z8
  have e5_9 := (show F9.eval (.tmp 5) = F8.eval (.tmp 5) by rw [hF]; exact evO (by decide)).trans e5_8
  have e6_9 := (show F9.eval (.tmp 6) = F8.eval (.tmp 6) by rw [hF]; exact evO (by decide)).trans e6_8
  have e13_9 := (show F9.eval (.tmp 13) = F8.eval (.tmp 13) by rw [hF]; exact evO (by decide)).trans e13_8
  have e15_9 := (show F9.eval (.tmp 15) = F8.eval (.tmp 15) by rw [hF]; exact evO (by decide)).trans e15_8
  have e18_9 := (show F9.eval (.tmp 18) = F8.eval (.tmp 18) by rw [hF]; exact evO (by decide)).trans e18_8
  have e20_9 := (show F9.eval (.tmp 20) = F8.eval (.tmp 20) by rw [hF]; exact evO (by decide)).trans e20_8
  have e22_9 : F9.eval (.tmp 22) = .pointer (some ⟨g5, 2, none⟩) := by rw [hF]; exact evS (by rw [z8]; decide)
  have HF9 := Lib.hid hF
  clear hF e5_8 e6_8 e13_8 e15_8 e18_8 e20_8
  refine tkT (i := 11) (oi := _) (v := .int .u64 n.f2) rfl (by kernel_rfl) (by kernel_rfl) (by kernel_rfl) (fun _ _ _ h => h) HS.out (wantedT rfl) (fun w hs => by have c1 := hs.1 2 (.int .u64 n.f2) rfl; simp only [Nat.zero_add] at c1; exact ldT rfl e22_9 (by go_simp)) ?_
  intro F10 hF
  replace hF : F10 = F9.put (some 23) (.int .u64 n.f2) := hF
  have z10 : F10.tmps.size = 42 := by rw [hF]; simpa [Act.put] using z9
  have e5_10 := (show F10.eval (.tmp 5) = F9.eval (.tmp 5) by rw [hF]; exact evO (by decide)).trans e5_9
  have e6_10 := (show F10.eval (.tmp 6) = F9.eval (.tmp 6) by rw [hF]; exact evO (by decide)).trans e6_9
  have e13_10 := (show F10.eval (.tmp 13) = F9.eval (.tmp 13) by rw [hF]; exact evO (by decide)).trans e13_9
  have e15_10 := (show F10.eval (.tmp 15) = F9.eval (.tmp 15) by rw [hF]; exact evO (by decide)).trans e15_9
  have e18_10 := (show F10.eval (.tmp 18) = F9.eval (.tmp 18) by rw [hF]; exact evO (by decide)).trans e18_9
  have e20_10 := (show F10.eval (.tmp 20) = F9.eval (.tmp 20) by rw [hF]; exact evO (by decide)).trans e20_9
  have e23_10 : F10.eval (.tmp 23) = .int .u64 n.f2 := by rw [hF]; exact evS (by rw [z9]; decide)
  have HF10 := Lib.hid hF
  clear hF e5_9 e6_9 e13_9 e15_9 e18_9 e20_9 e22_9
  refine tkT (i := 12) (oi := _) (v := .pointer (some ⟨g6, 2, none⟩)) rfl (by kernel_rfl) (by kernel_rfl) (by kernel_rfl) (fun _ _ _ h => h) HS.out (wantedT rfl) (fun w _ => faT rfl e6_10 (by go_simp)) ?_
  intro F11 hF
  replace hF : F11 = F10.put (some 24) (.pointer (some ⟨g6, 2, none⟩)) := hF
  have z11 : F11.tmps.size = 42 := by rw [hF]; simpa [Act.put] using z10
  have e5_11 := (show F11.eval (.tmp 5) = F10.eval (.tmp 5) by rw [hF]; exact evO (by decide)).trans e5_10
  have e6_11 := (show F11.eval (.tmp 6) = F10.eval (.tmp 6) by rw [hF]; exact evO (by decide)).trans e6_10
  have e13_11 := (show F11.eval (.tmp 13) = F10.eval (.tmp 13) by rw [hF]; exact evO (by decide)).trans e13_10
  have e15_11 := (show F11.eval (.tmp 15) = F10.eval (.tmp 15) by rw [hF]; exact evO (by decide)).trans e15_10
  have e18_11 := (show F11.eval (.tmp 18) = F10.eval (.tmp 18) by rw [hF]; exact evO (by decide)).trans e18_10
  have e20_11 := (show F11.eval (.tmp 20) = F10.eval (.tmp 20) by rw [hF]; exact evO (by decide)).trans e20_10
  have e23_11 := (show F11.eval (.tmp 23) = F10.eval (.tmp 23) by rw [hF]; exact evO (by decide)).trans e23_10
  have e24_11 : F11.eval (.tmp 24) = .pointer (some ⟨g6, 2, none⟩) := by rw [hF]; exact evS (by rw [z10]; decide)
  have HF11 := Lib.hid hF
  clear hF e5_10 e6_10 e13_10 e15_10 e18_10 e20_10 e23_10
  refine tkT (i := 13) (oi := _) (v := .int .u64 m.f2) rfl (by kernel_rfl) (by kernel_rfl) (by kernel_rfl) (fun _ _ _ h => h) HS.out (wantedT rfl) (fun w hs => by have c1 := hs.2 2 (.int .u64 m.f2) rfl; simp only [Nat.zero_add] at c1; exact ldT rfl e24_11 (by go_simp)) ?_
  intro F12 hF
  replace hF : F12 = F11.put (some 25) (.int .u64 m.f2) := hF
  have z12 : F12.tmps.size = 42 := by rw [hF]; simpa [Act.put] using z11
  have e5_12 := (show F12.eval (.tmp 5) = F11.eval (.tmp 5) by rw [hF]; exact evO (by decide)).trans e5_11
  have e6_12 := (show F12.eval (.tmp 6) = F11.eval (.tmp 6) by rw [hF]; exact evO (by decide)).trans e6_11
  have e13_12 := (show F12.eval (.tmp 13) = F11.eval (.tmp 13) by rw [hF]; exact evO (by decide)).trans e13_11
  have e15_12 := (show F12.eval (.tmp 15) = F11.eval (.tmp 15) by rw [hF]; exact evO (by decide)).trans e15_11
  have e18_12 := (show F12.eval (.tmp 18) = F11.eval (.tmp 18) by rw [hF]; exact evO (by decide)).trans e18_11
  have e20_12 := (show F12.eval (.tmp 20) = F11.eval (.tmp 20) by rw [hF]; exact evO (by decide)).trans e20_11
  have e23_12 := (show F12.eval (.tmp 23) = F11.eval (.tmp 23) by rw [hF]; exact evO (by decide)).trans e23_11
  have e25_12 : F12.eval (.tmp 25) = .int .u64 m.f2 := by rw [hF]; exact evS (by rw [z11]; decide)
  have HF12 := Lib.hid hF
  clear hF e5_11 e6_11 e13_11 e15_11 e18_11 e20_11 e23_11 e24_11
  refine tkT (i := 15) (oi := _) (v := .pointer (some ⟨g5, 3, none⟩)) rfl (by kernel_rfl) (by kernel_rfl) (by kernel_rfl) (fun _ _ _ h => h) HS.out (wantedT rfl) (fun w _ => faT rfl e5_12 (by go_simp)) ?_
  intro F13 hF
  replace hF : F13 = F12.put (some 27) (.pointer (some ⟨g5, 3, none⟩)) := hF
  have z13 : F13.tmps.size = 42 := by rw [hF]; simpa [Act.put] using z12
  have e6_13 := (show F13.eval (.tmp 6) = F12.eval (.tmp 6) by rw [hF]; exact evO (by decide)).trans e6_12
  have e13_13 := (show F13.eval (.tmp 13) = F12.eval (.tmp 13) by rw [hF]; exact evO (by decide)).trans e13_12
  have e15_13 := (show F13.eval (.tmp 15) = F12.eval (.tmp 15) by rw [hF]; exact evO (by decide)).trans e15_12
  have e18_13 := (show F13.eval (.tmp 18) = F12.eval (.tmp 18) by rw [hF]; exact evO (by decide)).trans e18_12
  have e20_13 := (show F13.eval (.tmp 20) = F12.eval (.tmp 20) by rw [hF]; exact evO (by decide)).trans e20_12
  have e23_13 := (show F13.eval (.tmp 23) = F12.eval (.tmp 23) by rw [hF]; exact evO (by decide)).trans e23_12
  have e25_13 := (show F13.eval (.tmp 25) = F12.eval (.tmp 25) by rw [hF]; exact evO (by decide)).trans e25_12
  have e27_13 : F13.eval (.tmp 27) = .pointer (some ⟨g5, 3, none⟩) := by rw [hF]; exact evS (by rw [z12]; decide)
  have HF13 := Lib.hid hF
  clear hF e5_12 e6_12 e13_12 e15_12 e18_12 e20_12 e23_12 e25_12
  refine tkT (i := 16) (oi := _) (v := .string n.f3) rfl (by kernel_rfl) (by kernel_rfl) (by kernel_rfl) (fun _ _ _ h => h) HS.out (wantedT rfl) (fun w hs => by have c1 := hs.1 3 (.string n.f3) rfl; simp only [Nat.zero_add] at c1; exact ldT rfl e27_13 (by go_simp)) ?_
  intro F14 hF
  replace hF : F14 = F13.put (some 28) (.string n.f3) := hF
  have z14 : F14.tmps.size = 42 := by rw [hF]; simpa [Act.put] using z13
  have e6_14 := (show F14.eval (.tmp 6) = F13.eval (.tmp 6) by rw [hF]; exact evO (by decide)).trans e6_13
  have e13_14 := (show F14.eval (.tmp 13) = F13.eval (.tmp 13) by rw [hF]; exact evO (by decide)).trans e13_13
  have e15_14 := (show F14.eval (.tmp 15) = F13.eval (.tmp 15) by rw [hF]; exact evO (by decide)).trans e15_13
  have e18_14 := (show F14.eval (.tmp 18) = F13.eval (.tmp 18) by rw [hF]; exact evO (by decide)).trans e18_13
  have e20_14 := (show F14.eval (.tmp 20) = F13.eval (.tmp 20) by rw [hF]; exact evO (by decide)).trans e20_13
  have e23_14 := (show F14.eval (.tmp 23) = F13.eval (.tmp 23) by rw [hF]; exact evO (by decide)).trans e23_13
  have e25_14 := (show F14.eval (.tmp 25) = F13.eval (.tmp 25) by rw [hF]; exact evO (by decide)).trans e25_13
  have e28_14 : F14.eval (.tmp 28) = .string n.f3 := by rw [hF]; exact evS (by rw [z13]; decide)
  have HF14 := Lib.hid hF
  clear hF e6_13 e13_13 e15_13 e18_13 e20_13 e23_13 e25_13 e27_13
  refine tkT (i := 17) (oi := _) (v := .pointer (some ⟨g6, 3, none⟩)) rfl (by kernel_rfl) (by kernel_rfl) (by kernel_rfl) (fun _ _ _ h => h) HS.out (wantedT rfl) (fun w _ => faT rfl e6_14 (by go_simp)) ?_
  intro F15 hF
  replace hF : F15 = F14.put (some 29) (.pointer (some ⟨g6, 3, none⟩)) := hF
  have z15 : F15.tmps.size = 42 := by rw [hF]; simpa [Act.put] using z14
  have e13_15 := (show F15.eval (.tmp 13) = F14.eval (.tmp 13) by rw [hF]; exact evO (by decide)).trans e13_14
  have e15_15 := (show F15.eval (.tmp 15) = F14.eval (.tmp 15) by rw [hF]; exact evO (by decide)).trans e15_14
  have e18_15 := (show F15.eval (.tmp 18) = F14.eval (.tmp 18) by rw [hF]; exact evO (by decide)).trans e18_14
  have e20_15 := (show F15.eval (.tmp 20) = F14.eval (.tmp 20) by rw [hF]; exact evO (by decide)).trans e20_14
  have e23_15 := (show F15.eval (.tmp 23) = F14.eval (.tmp 23) by rw [hF]; exact evO (by decide)).trans e23_14
  have e25_15 := (show F15.eval (.tmp 25) = F14.eval (.tmp 25) by rw [hF]; exact evO (by decide)).trans e25_14
  have e28_15 := (show F15.eval (.tmp 28) = F14.eval (.tmp 28) by rw [hF]; exact evO (by decide)).trans e28_14
  have e29_15 : F15.eval (.tmp 29) = .pointer (some ⟨g6, 3, none⟩) := by rw [hF]; exact evS (by rw [z14]; decide)
  have HF15 := Lib.hid hF
  clear hF e6_14 e13_14 e15_14 e18_14 e20_14 e23_14 e25_14 e28_14
  refine tkT (i := 18) (oi := _) (v := .string m.f3) rfl (by kernel_rfl) (by kernel_rfl) (by kernel_rfl) (fun _ _ _ h => h) HS.out (wantedT rfl) (fun w hs => by have c1 := hs.2 3 (.string m.f3) rfl; simp only [Nat.zero_add] at c1; exact ldT rfl e29_15 (by go_simp)) ?_
  intro F16 hF
  replace hF : F16 = F15.put (some 30) (.string m.f3) := hF
  have z16 : F16.tmps.size = 42 := by rw [hF]; simpa [Act.put] using z15
  have e13_16 := (show F16.eval (.tmp 13) = F15.eval (.tmp 13) by rw [hF]; exact evO (by decide)).trans e13_15
  have e15_16 := (show F16.eval (.tmp 15) = F15.eval (.tmp 15) by rw [hF]; exact evO (by decide)).trans e15_15
  have e18_16 := (show F16.eval (.tmp 18) = F15.eval (.tmp 18) by rw [hF]; exact evO (by decide)).trans e18_15
  have e20_16 := (show F16.eval (.tmp 20) = F15.eval (.tmp 20) by rw [hF]; exact evO (by decide)).trans e20_15
  have e23_16 := (show F16.eval (.tmp 23) = F15.eval (.tmp 23) by rw [hF]; exact evO (by decide)).trans e23_15
  have e25_16 := (show F16.eval (.tmp 25) = F15.eval (.tmp 25) by rw [hF]; exact evO (by decide)).trans e25_15
  have e28_16 := (show F16.eval (.tmp 28) = F15.eval (.tmp 28) by rw [hF]; exact evO (by decide)).trans e28_15
  have e30_16 : F16.eval (.tmp 30) = .string m.f3 := by rw [hF]; exact evS (by rw [z15]; decide)
  have HF16 := Lib.hid hF
  clear hF e13_15 e15_15 e18_15 e20_15 e23_15 e25_15 e28_15 e29_15
  refine aloneT (i := 4) (oi := _) rfl (by kernel_rfl) (wantedT rfl) ?_
  refine wpCall (clT (f := 65) (args := #[.int .i64 n.f0, .int .i64 m.f0]) rfl (by simp only [List.map_toArray, List.map_cons, List.map_nil, e13_16, e15_16] <;> rfl) (fun args w => by kernel_rfl)) (fun v w' => v = .int .i64 (icmp n.f0 m.f0) ∧ w' = w2.drew) ((cmpK_any _ _ _).mono (by rintro e w' ⟨rfl, rfl⟩; exact ⟨_, rfl, rfl, rfl⟩)) ?_
  rintro v w' ⟨rfl, rfl⟩
  refine ⟨HS.out, genT fun F17 hF => ?_⟩
  have HS := Lib.hid (HS.out)
  replace hF : F17 = F16.put (some 16) (.int .i64 (icmp n.f0 m.f0)) := hF
  have z17 : F17.tmps.size = 42 := by rw [hF]; simpa [Act.put] using z16
  have e16_17 : F17.eval (.tmp 16) = .int .i64 (icmp n.f0 m.f0) := by rw [hF]; exact evS (by rw [z16]; decide)
  have e18_17 := (show F17.eval (.tmp 18) = F16.eval (.tmp 18) by rw [hF]; exact evO (by decide)).trans e18_16
  have e20_17 := (show F17.eval (.tmp 20) = F16.eval (.tmp 20) by rw [hF]; exact evO (by decide)).trans e20_16
  have e23_17 := (show F17.eval (.tmp 23) = F16.eval (.tmp 23) by rw [hF]; exact evO (by decide)).trans e23_16
  have e25_17 := (show F17.eval (.tmp 25) = F16.eval (.tmp 25) by rw [hF]; exact evO (by decide)).trans e25_16
  have e28_17 := (show F17.eval (.tmp 28) = F16.eval (.tmp 28) by rw [hF]; exact evO (by decide)).trans e28_16
  have e30_17 := (show F17.eval (.tmp 30) = F16.eval (.tmp 30) by rw [hF]; exact evO (by decide)).trans e30_16
  have HF17 := Lib.hid hF
  clear hF e13_16 e15_16 e18_16 e20_16 e23_16 e25_16 e28_16 e30_16
  refine aloneT (i := 9) (oi := _) rfl (by kernel_rfl) (wantedT rfl) ?_
  refine wpCall (clT (f := 66) (args := #[.int .i64 n.f1, .int .i64 m.f1]) rfl (by simp only [List.map_toArray, List.map_cons, List.map_nil, e18_17, e20_17] <;> rfl) (fun args w => by kernel_rfl)) (fun v w' => v = .int .i64 (icmp n.f1 m.f1) ∧ w' = w2.drew) ((cmpI_any _ _ _).mono (by rintro e w' ⟨rfl, rfl⟩; exact ⟨_, rfl, rfl, rfl⟩)) ?_
  rintro v w' ⟨rfl, rfl⟩
  refine ⟨HS.out, genT fun F18 hF => ?_⟩
  have HS := Lib.hid (HS.out)
  replace hF : F18 = F17.put (some 21) (.int .i64 (icmp n.f1 m.f1)) := hF
  have z18 : F18.tmps.size = 42 := by rw [hF]; simpa [Act.put] using z17
  have e16_18 := (show F18.eval (.tmp 16) = F17.eval (.tmp 16) by rw [hF]; exact evO (by decide)).trans e16_17
  have e21_18 : F18.eval (.tmp 21) = .int .i64 (icmp n.f1 m.f1) := by rw [hF]; exact evS (by rw [z17]; decide)
  have e23_18 := (show F18.eval (.tmp 23) = F17.eval (.tmp 23) by rw [hF]; exact evO (by decide)).trans e23_17
  have e25_18 := (show F18.eval (.tmp 25) = F17.eval (.tmp 25) by rw [hF]; exact evO (by decide)).trans e25_17
  have e28_18 := (show F18.eval (.tmp 28) = F17.eval (.tmp 28) by rw [hF]; exact evO (by decide)).trans e28_17
  have e30_18 := (show F18.eval (.tmp 30) = F17.eval (.tmp 30) by rw [hF]; exact evO (by decide)).trans e30_17
  have HF18 := Lib.hid hF
  clear hF e16_17 e18_17 e20_17 e23_17 e25_17 e28_17 e30_17
  refine aloneT (i := 14) (oi := _) rfl (by kernel_rfl) (wantedT rfl) ?_
  refine wpCall (clT (f := 23) (args := #[.int .u64 n.f2, .int .u64 m.f2]) rfl (by simp only [List.map_toArray, List.map_cons, List.map_nil, e23_18, e25_18] <;> rfl) (fun args w => by kernel_rfl)) (fun v w' => v = .int .i64 (ford n.f2 m.f2) ∧ w' = w2.drew) ((Order_any _ _ _).mono (by rintro e w' ⟨rfl, rfl⟩; exact ⟨_, rfl, rfl, rfl⟩)) ?_
  rintro v w' ⟨rfl, rfl⟩
  refine ⟨HS.out, genT fun F19 hF => ?_⟩
  have HS := Lib.hid (HS.out)
  replace hF : F19 = F18.put (some 26) (.int .i64 (ford n.f2 m.f2)) := hF
  have z19 : F19.tmps.size = 42 := by rw [hF]; simpa [Act.put] using z18
  have e16_19 := (show F19.eval (.tmp 16) = F18.eval (.tmp 16) by rw [hF]; exact evO (by decide)).trans e16_18
  have e21_19 := (show F19.eval (.tmp 21) = F18.eval (.tmp 21) by rw [hF]; exact evO (by decide)).trans e21_18
  have e26_19 : F19.eval (.tmp 26) = .int .i64 (ford n.f2 m.f2) := by rw [hF]; exact evS (by rw [z18]; decide)
  have e28_19 := (show F19.eval (.tmp 28) = F18.eval (.tmp 28) by rw [hF]; exact evO (by decide)).trans e28_18
  have e30_19 := (show F19.eval (.tmp 30) = F18.eval (.tmp 30) by rw [hF]; exact evO (by decide)).trans e30_18
  have HF19 := Lib.hid hF
  clear hF e16_18 e21_18 e23_18 e25_18 e28_18 e30_18
  refine aloneT (i := 19) (oi := _) rfl (by kernel_rfl) (wantedT rfl) ?_
  refine wpCall (clT (f := 67) (args := #[.string n.f3, .string m.f3]) rfl (by simp only [List.map_toArray, List.map_cons, List.map_nil, e28_19, e30_19] <;> rfl) (fun args w => by kernel_rfl)) (fun v w' => v = .int .i64 (bcmp n.f3 m.f3) ∧ w' = w2.drew) ((Try.strings_Compare _ _ _).mono (by rintro e w' ⟨rfl, rfl⟩; exact ⟨_, rfl, rfl, rfl⟩)) ?_
  rintro v w' ⟨rfl, rfl⟩
  refine ⟨HS.out, genT fun F20 hF => ?_⟩
  have HS := Lib.hid (HS.out)
  replace hF : F20 = F19.put (some 31) (.int .i64 (bcmp n.f3 m.f3)) := hF
  have z20 : F20.tmps.size = 42 := by rw [hF]; simpa [Act.put] using z19
  have e16_20 := (show F20.eval (.tmp 16) = F19.eval (.tmp 16) by rw [hF]; exact evO (by decide)).trans e16_19
  have e21_20 := (show F20.eval (.tmp 21) = F19.eval (.tmp 21) by rw [hF]; exact evO (by decide)).trans e21_19
  have e26_20 := (show F20.eval (.tmp 26) = F19.eval (.tmp 26) by rw [hF]; exact evO (by decide)).trans e26_19
  have e31_20 : F20.eval (.tmp 31) = .int .i64 (bcmp n.f3 m.f3) := by rw [hF]; exact evS (by rw [z19]; decide)
  have HF20 := Lib.hid hF
  clear hF e16_19 e21_19 e26_19 e28_19 e30_19
  refine aloneT (i := 20) (oi := _) rfl (by kernel_rfl) (wantedT rfl) ?_
  refine wpRun (v := .slice (some ⟨w2.heap.size, 0, none⟩) 4 4) (w' := w2.drew.alloc (.cells #[.int .i64 (icmp n.f0 m.f0), .int .i64 (icmp n.f1 m.f1), .int .i64 (ford n.f2 m.f2), .int .i64 (bcmp n.f3 m.f3)] 3)) (bsT rfl (vals := #[(0, .int .i64 (icmp n.f0 m.f0)), (1, .int .i64 (icmp n.f1 m.f1)), (2, .int .i64 (ford n.f2 m.f2)), (3, .int .i64 (bcmp n.f3 m.f3))]) (by simp only [List.map_toArray, List.map_cons, List.map_nil, e16_20, e21_20, e26_20, e31_20]) (by go_simp)) ?_
  refine ⟨And.intro (rangeQt HS.out.1 ((Qt.refl _).alloc (.cells #[.int .i64 (icmp n.f0 m.f0), .int .i64 (icmp n.f1 m.f1), .int .i64 (ford n.f2 m.f2), .int .i64 (bcmp n.f3 m.f3)] 3))) (rangeQt HS.out.2 ((Qt.refl _).alloc (.cells #[.int .i64 (icmp n.f0 m.f0), .int .i64 (icmp n.f1 m.f1), .int .i64 (ford n.f2 m.f2), .int .i64 (bcmp n.f3 m.f3)] 3))), genT fun F21 hF => ?_⟩
  have HS := Lib.hid (And.intro (rangeQt HS.out.1 ((Qt.refl _).alloc (.cells #[.int .i64 (icmp n.f0 m.f0), .int .i64 (icmp n.f1 m.f1), .int .i64 (ford n.f2 m.f2), .int .i64 (bcmp n.f3 m.f3)] 3))) (rangeQt HS.out.2 ((Qt.refl _).alloc (.cells #[.int .i64 (icmp n.f0 m.f0), .int .i64 (icmp n.f1 m.f1), .int .i64 (ford n.f2 m.f2), .int .i64 (bcmp n.f3 m.f3)] 3))))
  replace hF : F21 = F20.put (some 32) (.slice (some ⟨w2.heap.size, 0, none⟩) 4 4) := hF
  have z21 : F21.tmps.size = 42 := by rw [hF]; simpa [Act.put] using z20
  have e32_21 : F21.eval (.tmp 32) = .slice (some ⟨w2.heap.size, 0, none⟩) 4 4 := by rw [hF]; exact evS (by rw [z20]; decide)
  have HF21 := Lib.hid hF
  clear hF e16_20 e21_20 e26_20 e31_20
  refine aloneT (i := 21) (oi := _) rfl (by kernel_rfl) (wantedT rfl) ?_
  refine wpCall (clT (f := 64) (args := #[.slice (some ⟨w2.heap.size, 0, none⟩) 4 4]) rfl (by simp only [List.map_toArray, List.map_cons, List.map_nil, e32_21] <;> rfl) (fun args w => by kernel_rfl)) (fun v w' => v = .int .i64 (ncmp n m) ∧ w' = w2.drew.alloc (.cells #[.int .i64 (icmp n.f0 m.f0), .int .i64 (icmp n.f1 m.f1), .int .i64 (ford n.f2 m.f2), .int .i64 (bcmp n.f3 m.f3)] 3)) ((or_any [icmp n.f0 m.f0, icmp n.f1 m.f1, ford n.f2 m.f2, bcmp n.f3 m.f3] _ _ _ (by show 4 ≤ 1000; decide) (or_new w2.drew _ _ _ _)).mono (by rintro e w' ⟨rfl, rfl⟩; exact ⟨_, rfl, rfl, rfl⟩)) ?_
  rintro v w' ⟨rfl, rfl⟩
  refine ⟨HS.out, genT fun F22 hF => ?_⟩
  have HS := Lib.hid (HS.out)
  replace hF : F22 = F21.put (some 33) (.int .i64 (ncmp n m)) := hF
  have z22 : F22.tmps.size = 42 := by rw [hF]; simpa [Act.put] using z21
  have e33_22 : F22.eval (.tmp 33) = .int .i64 (ncmp n m) := by rw [hF]; exact evS (by rw [z21]; decide)
  have HF22 := Lib.hid hF
  clear hF e32_21
  refine tkT (i := 22) (oi := _) (v := .int .i64 (ncmp n m)) rfl (by kernel_rfl) (by kernel_rfl) (by kernel_rfl) (fun _ _ _ h => h) HS.out (wantedT rfl) (fun w _ => asT rfl e33_22 w) ?_
  intro F23 hF
  replace hF : F23 = F22.put (some 7) (.int .i64 (ncmp n m)) := hF
  have z23 : F23.tmps.size = 42 := by rw [hF]; simpa [Act.put] using z22
  have HF23 := Lib.hid hF
  clear hF e33_22
  refine wpAnyH_done (by kernel_rfl) ?_ _
  rw [HF23.out, HF22.out, HF21.out, HF20.out, HF19.out, HF18.out, HF17.out, HF16.out, HF15.out, HF14.out, HF13.out, HF12.out, HF11.out, HF10.out, HF9.out, HF8.out, HF7.out, HF6.out, HF5.out, HF4.out, HF3.out, HF2.out, HF1.out, HA.out]
  simp only [Act.put, List.setIfInBounds_toArray, List.set_cons_succ, List.set_cons_zero]
  clear HF23 HF22 HF21 HF20 HF19 HF18 HF17 HF16 HF15 HF14 HF13 HF12 HF11 HF10 HF9 HF8 HF7 HF6 HF5 HF4 HF3 HF2 HF1 HA z23 z22 z21 z20 z19 z18 z17 z16 z15 z14 z13 z12 z11 z10 z9 z8 z7 z6 z5 z4 z3 z2 z1 z0 
  have hq3 : Qt w1 (w2.drew.alloc (.cells #[.int .i64 (icmp n.f0 m.f0), .int .i64 (icmp n.f1 m.f1), .int .i64 (ford n.f2 m.f2), .int .i64 (bcmp n.f3 m.f3)] 3)) := HQ2.out.drew.alloc _
  generalize (w2.drew.alloc (.cells #[.int .i64 (icmp n.f0 m.f0), .int .i64 (icmp n.f1 m.f1), .int .i64 (ford n.f2 m.f2), .int .i64 (bcmp n.f3 m.f3)] 3)) = w3 at hq3 ⊢
  have hq03 := HQ1.out.trans hq3
  have HQ03 := Lib.hid hq03
  by_cases h0 : ncmp n m = 0
  · have H0 := Lib.hid h0
    rw [h0]
    have c5 : w3.cell? ⟨w.heap.size, 5, none⟩ = some (.slice A ks.length c) := ((HB2.out.qt hq3).cell 5).trans HC5.out
    have d5 : w3.cell? ⟨w.heap.size + 1, 5, none⟩ = some (.slice B js.length d) := ((HB3.out.qt hq3).cell 5).trans HD5.out
    have HC := Lib.hid (HCF.out w3 hq03)
    clear hq3 hq03 h0
    go_wp2_with (go_at_call 68; refine HC.out.mono ?_; rintro e w4 ⟨rfl, q4⟩; (have HQ4 := Lib.hid q4); clear q4)
    go_ret
    exact ⟨by first | rfl | (rw [if_pos H0.out]; rfl), HQ03.out.trans HQ4.out⟩
  · clear hq3 hq03
    go_wp2
    go_ret
    exact ⟨by first | rfl | (rw [if_neg h0]; rfl), HQ03.out⟩

set_option maxRecDepth 100000 in
set_option maxHeartbeats 1000000 in
theorem compare_any (ks js : List Tr) (A B : Option Addr) (c d : Nat) (ok ok' : Nat → Prop) (cf df : Nat → List Value) (w : World) (hkl : ks.length ≤ 1000000) (hjl : js.length ≤ 1000000)
    (hK : ∀ i k, ks[i]? = some k → ∃ b off, A = some ⟨b, off, none⟩ ∧ w.rangeAt b (off + i * 7) (cf i) ∧ Br w ok (cf i) k)
    (hJ : ∀ i k, js[i]? = some k → ∃ b off, B = some ⟨b, off, none⟩ ∧ w.rangeAt b (off + i * 7) (df i) ∧ Br w ok' (df i) k)
    (ih : ∀ k ∈ ks, ∀ (u : Tr) (cs ds : List Value) (w : World), Br w ok cs k → Br w ok' ds u → u ∈ js → Calls Try.prog 43 #[.agg cs.toArray, .agg ds.toArray] w fun e w' => e = .returned (.int .i64 (ord k u)) ∧ Qt w w') :
    Calls Try.prog 68 #[.slice A ks.length c, .slice B js.length d, .func (.func 43) #[] #[]] w fun e w' => e = .returned (.int .i64 (ords ks js)) ∧ Qt w w' := by
  obtain ⟨gs, hgs⟩ : ∃ fs, Try.prog.underlying 60 = some (.struct fs) := ⟨_, Try.underlying60⟩
  have HK := Lib.hid hK
  have HJ := Lib.hid hJ
  have HIH := Lib.hid ih
  have HGS := Lib.hid hgs
  clear hK hJ ih hgs
  go_enter Try.func68, Try.ntmps68
  go_wp2
  go_loopw [13] (fun i wr => ∃ j : Nat, j ≤ ks.length ∧ j ≤ js.length ∧ i = .int .i64 j ∧ ords ks js = ords (ks.drop j) (js.drop j) ∧ Qt w wr) (fun i _ => ks.length - (intOf i).toNat)
  case atStart => exact ⟨0, by omega, by omega, rfl, rfl, Qt.refl w⟩
  case round =>
    obtain ⟨j, hj, hj2, rfl, he, hq⟩ := hrel
    have HE := Lib.hid he
    have HQ := Lib.hid hq
    clear he hq
    by_cases hlt : j < ks.length
    · obtain ⟨k, hk⟩ : ∃ k, ks[j]? = some k := ⟨_, List.getElem?_eq_getElem hlt⟩
      obtain ⟨b, off, rfl, hr, hb⟩ := HK.out j k hk
      have hkm := List.mem_of_getElem? hk
      have hd : ks.drop j = k :: ks.drop (j + 1) := by
        rw [List.drop_eq_getElem_cons hlt]; congr 1
        exact Option.some.inj ((List.getElem?_eq_getElem hlt).symm.trans hk)
      have h7 := hb.len
      have HR := Lib.hid (rangeQt hr HQ.out)
      have HB := Lib.hid (hb.qt HQ.out)
      have HONE := Lib.hid hb.one
      have HD := Lib.hid hd
      have HKM := Lib.hid hkm
      clear hr hb hd hk hkm
      by_cases hlt2 : j < js.length
      · obtain ⟨u, hu⟩ : ∃ u, js[j]? = some u := ⟨_, List.getElem?_eq_getElem hlt2⟩
        obtain ⟨b2, off2, rfl, hr2, hb2⟩ := HJ.out j u hu
        have hum := List.mem_of_getElem? hu
        have hd2 : js.drop j = u :: js.drop (j + 1) := by
          rw [List.drop_eq_getElem_cons hlt2]; congr 1
          exact Option.some.inj ((List.getElem?_eq_getElem hlt2).symm.trans hu)
        have i7 := hb2.len
        have HR2 := Lib.hid (rangeQt hr2 HQ.out)
        have HB2 := Lib.hid (hb2.qt HQ.out)
        have HONE2 := Lib.hid hb2.one
        have HD2 := Lib.hid hd2
        have HUM := Lib.hid hum
        clear hr2 hb2 hd2 hu hum
        generalize cf j = ck at *
        generalize df j = dk at *
        have hords : ords ks js = if ord k u = 0 then ords (ks.drop (j + 1)) (js.drop (j + 1)) else ord k u := by rw [HE.out, HD.out, HD2.out, ords]
        have HO := Lib.hid hords
        clear hords
        by_cases h0 : ord k u = 0
        · have H0 := Lib.hid h0
          clear h0
          go_wp2_with (first
            | (refine armLm rfl 60 (.tmp 16) rfl b (off + j * 7) rfl HR.out (.struct gs) HGS.out rfl (by rw [h7]; kernel_rfl) ?_)
            | (refine armSt rfl 60 (.tmp 8) (.tmp 17) rfl wr.heap.size ck rfl rfl (t := 60) (old := zBr) (heap_alloc_new wr _) (by rw [h7]; kernel_rfl) (by rw [h7]; rfl) HONE.out ?_; intro w3 og3 hz3 hb3; (have HB3 := Lib.hid hb3); (have hq3 : Qt wr w3 := og3.qt ((Qt.refl wr).alloc _) (Nat.le_refl _)); (have HQ3 := Lib.hid hq3); (have HR3 := Lib.hid (rangeQt HR2.out hq3)); clear og3 hb3 hq3)
            | (refine armLm rfl 60 (.tmp 24) rfl b2 (off2 + j * 7) rfl HR3.out (.struct gs) HGS.out rfl (by rw [i7]; kernel_rfl) ?_)
            | (refine armSt rfl 60 (.tmp 9) (.tmp 25) rfl w3.heap.size dk rfl rfl (t := 60) (old := zBr) (heap_alloc_new w3 _) (by rw [i7]; kernel_rfl) (by rw [i7]; rfl) HONE2.out ?_; intro w5 og5 hz5 hb5; (have HB5 := Lib.hid hb5); (have hq35 : Qt w3 w5 := og5.qt ((Qt.refl w3).alloc _) (Nat.le_refl _)); (have hq5 := HQ3.out.trans hq35); (have HQ5 := Lib.hid hq5); (have HB35 := Lib.hid (HB3.out.qt hq35)); (have HC := Lib.hid (HIH.out k HKM.out u ck dk w5 (HB.out.qt hq5) (HB2.out.qt hq5) HUM.out)); clear og5 hb5 hq5 hq35)
            | (refine armLd rfl 60 (.tmp 8) rfl wr.heap.size rfl HB35.out (.struct gs) HGS.out rfl (by rw [h7]; kernel_rfl) ?_)
            | (refine armLd rfl 60 (.tmp 9) rfl w3.heap.size rfl HB5.out (.struct gs) HGS.out rfl (by rw [i7]; kernel_rfl) ?_)
            | (go_at_call 43; refine HC.out.mono ?_; rintro e w6 ⟨rfl, q6⟩; (have HQ6 := Lib.hid q6); clear q6; try rw [H0.out]))
          go_roundw
          case rel => exact ⟨j + 1, by omega, by omega, by go_num, by rw [HO.out, if_pos H0.out], (HQ.out.trans HQ5.out).trans HQ6.out⟩
          case measure => simp [intOf]; omega
        · have H0 := Lib.hid h0
          go_wp2_with (first
            | (refine armLm rfl 60 (.tmp 16) rfl b (off + j * 7) rfl HR.out (.struct gs) HGS.out rfl (by rw [h7]; kernel_rfl) ?_)
            | (refine armSt rfl 60 (.tmp 8) (.tmp 17) rfl wr.heap.size ck rfl rfl (t := 60) (old := zBr) (heap_alloc_new wr _) (by rw [h7]; kernel_rfl) (by rw [h7]; rfl) HONE.out ?_; intro w3 og3 hz3 hb3; (have HB3 := Lib.hid hb3); (have hq3 : Qt wr w3 := og3.qt ((Qt.refl wr).alloc _) (Nat.le_refl _)); (have HQ3 := Lib.hid hq3); (have HR3 := Lib.hid (rangeQt HR2.out hq3)); clear og3 hb3 hq3)
            | (refine armLm rfl 60 (.tmp 24) rfl b2 (off2 + j * 7) rfl HR3.out (.struct gs) HGS.out rfl (by rw [i7]; kernel_rfl) ?_)
            | (refine armSt rfl 60 (.tmp 9) (.tmp 25) rfl w3.heap.size dk rfl rfl (t := 60) (old := zBr) (heap_alloc_new w3 _) (by rw [i7]; kernel_rfl) (by rw [i7]; rfl) HONE2.out ?_; intro w5 og5 hz5 hb5; (have HB5 := Lib.hid hb5); (have hq35 : Qt w3 w5 := og5.qt ((Qt.refl w3).alloc _) (Nat.le_refl _)); (have hq5 := HQ3.out.trans hq35); (have HQ5 := Lib.hid hq5); (have HB35 := Lib.hid (HB3.out.qt hq35)); (have HC := Lib.hid (HIH.out k HKM.out u ck dk w5 (HB.out.qt hq5) (HB2.out.qt hq5) HUM.out)); clear og5 hb5 hq5 hq35)
            | (refine armLd rfl 60 (.tmp 8) rfl wr.heap.size rfl HB35.out (.struct gs) HGS.out rfl (by rw [h7]; kernel_rfl) ?_)
            | (refine armLd rfl 60 (.tmp 9) rfl w3.heap.size rfl HB5.out (.struct gs) HGS.out rfl (by rw [i7]; kernel_rfl) ?_)
            | (go_at_call 43; refine HC.out.mono ?_; rintro e w6 ⟨rfl, q6⟩; (have HQ6 := Lib.hid q6); clear q6; try rw [H0.out]))
          go_ret
          exact ⟨by rw [HO.out, if_neg H0.out]; rfl, (HQ.out.trans HQ5.out).trans HQ6.out⟩
      · have hn : js.drop j = [] := List.drop_of_length_le (by omega)
        have hords : ords ks js = 1 := by rw [HE.out, HD.out, hn, ords]
        have HO := Lib.hid hords
        clear hords hn
        generalize cf j = ck at *
        go_wp2_with (first
          | (refine armLm rfl 60 (.tmp 16) rfl b (off + j * 7) rfl HR.out (.struct gs) HGS.out rfl (by rw [h7]; kernel_rfl) ?_)
          | (refine armSt rfl 60 (.tmp 8) (.tmp 17) rfl wr.heap.size ck rfl rfl (t := 60) (old := zBr) (heap_alloc_new wr _) (by rw [h7]; kernel_rfl) (by rw [h7]; rfl) HONE.out ?_; intro w3 og3 hz3 hb3; (have HQ3 := Lib.hid (show Qt wr w3 from og3.qt ((Qt.refl wr).alloc _) (Nat.le_refl _))); clear og3 hb3))
        go_ret
        exact ⟨by rw [HO.out]; rfl, HQ.out.trans HQ3.out⟩
    · obtain rfl : j = ks.length := by omega
      have hn : ks.drop ks.length = [] := List.drop_length
      by_cases hlt2 : ks.length < js.length
      · have hords : ords ks js = -1 := by
          rw [HE.out, hn, List.drop_eq_getElem_cons hlt2, ords]
        have HO := Lib.hid hords
        clear hords hn
        go_wp2
        go_ret
        exact ⟨by rw [HO.out]; rfl, HQ.out⟩
      · have hords : ords ks js = 0 := by
          rw [HE.out, hn, List.drop_of_length_le (by omega), ords]
        have HO := Lib.hid hords
        clear hords hn
        go_wp2
        go_ret
        exact ⟨by rw [HO.out]; rfl, HQ.out⟩

/-- order tells which branch stands ahead. -/
theorem order_any : ∀ (N : Nat) (t u : Tr) (cs ds : List Value) (ok ok' : Nat → Prop) (w : World), t.flat.length ≤ N → t.flat.length ≤ 1000000 → u.flat.length ≤ 1000000 → Br w ok cs t → Br w ok' ds u →
    Calls Try.prog 43 #[.agg cs.toArray, .agg ds.toArray] w fun e w' => e = .returned (.int .i64 (ord t u)) ∧ Qt w w' := by
  intro N
  induction N with
  | zero => intro t u cs ds ok ok' w h; have := flat_pos t; omega
  | succ N ih =>
    intro t u cs ds ok ok' w hN hm hm' ha hb
    obtain ⟨n, ks⟩ := t
    obtain ⟨m, js⟩ := u
    obtain ⟨A, c, avA, avc, cf, hcs, h7, h1, h5, hc, hK, _⟩ := ha.parts
    obtain ⟨B, d, bvB, bvc, df, hds, i7, i1, i5, hd, hJ, _⟩ := hb.parts
    have e1 : (Tr.mk n ks).flat.length = (flats ks).length + 1 := by simp [Tr.flat]
    have e2 : (Tr.mk m js).flat.length = (flats js).length + 1 := by simp [Tr.flat]
    have e3 := flats_len ks
    have e4 := flats_len js
    refine (order_step n m ks js cs ds ok ok' w ha hb ords fun A' c' B' d' w1 q hA hB => ?_).mono fun e w' h => by rw [ord]; exact h
    rw [h5] at hA
    rw [i5] at hB
    cases hA
    cases hB
    exact compare_any ks js A B c d ok ok' cf df w1 (by omega) (by omega) (fun i k hk => let ⟨b, off, e, hr, hb⟩ := hK i k hk; ⟨b, off, e, rangeQt hr q, hb.qt q⟩)
      (fun i k hk => let ⟨b, off, e, hr, hb⟩ := hJ i k hk; ⟨b, off, e, rangeQt hr q, hb.qt q⟩)
      (fun k hk u cs ds w hb1 hb2 hu => by
        have := kid_lt (n := n) hk
        have := kid_lt (n := m) hu
        exact ih k u cs ds ok ok' w (by omega) (by omega) (by omega) hb1 hb2)

end Go.Proofs.Ytipgpnkdgofdeaa.Tm
