import Derived.Test.YtipgpnkdgofdeaaAW
/-! TermReals, printed by gentr.py. -/
namespace Go.Proofs.Ytipgpnkdgofdeaa.Tm
open Go.RowKit Go.Proofs.Ytipgpnkdgofdeaa.Fl
set_option linter.unusedVariables false
set_option linter.unusedSimpArgs false

theorem wantedU {ops : Array Oper} {o : Oper} {a : Act} {j d : Nat} {want : Bool} (hg : o.guard = some (j, want)) (hd : (ops[j]?).bind (·.dst) = some d) (hv : a.eval (.tmp d) = undef) (hz : d < a.tmps.size) : Region.wanted o (yielded ops a.tmps) = false := by
  have e1 : a.tmps[d]? = some undef := by
    have h1 : a.tmps.getD d undef = undef := hv
    rw [Array.getElem?_eq_getElem hz]
    simp [Array.getD, hz] at h1
    rw [h1]
  unfold Region.wanted yielded
  rw [hg]
  simp only [hd, Option.bind_some, e1]
  rfl

set_option maxRecDepth 100000 in
set_option maxHeartbeats 2000000 in
theorem termReals_any (a b : Int) (ha : Wd a) (hb : Wd b) (w : World) : Calls Try.prog 5 #[.int .u64 a, .int .u64 b] w fun e w' => e = .returned (.bool true) ∧ Qt w w' := by
  obtain ⟨ts, hts⟩ : ∃ fs, Try.prog.underlying 24 = some (.struct fs) := ⟨_, Try.underlying24⟩
  have HTS := Lib.hid hts
  have hx := fbits_wd' a ha
  have hy := fbits_wd' b hb
  have cx := fbits_right' a.toNat
  have cy := fbits_right' b.toNat
  have HCS := Lib.hid (same_cases _ _ hx hy cx cy)
  have HSR := Lib.hid (same_real _ _ hx hy cx cy)
  have HOR := Lib.hid (ord_real (fbits a.toNat) (fbits b.toNat))
  have HFX := Lib.hid (fits_real (fbits a.toNat))
  have HFA := Lib.hid (fits_real a)
  rw [cx] at HFX
  clear hts hx hy cx cy ha hb
  obtain ⟨ca, hca⟩ : ∃ r : Bool, r = (fbits a.toNat == a) := ⟨_, rfl⟩
  rw [← hca] at HFA
  have HRA := Lib.hid (fun w => Fl.Right_any a w)
  rw [← hca] at HRA
  have HCA := Lib.hid (fun w => Fl.Canon_any a w)
  have HCB := Lib.hid (fun w => Fl.Canon_any b w)
  clear hca
  have HFO := Lib.hid (fun w => Fl.Order_any (fbits a.toNat) (fbits b.toNat) w)
  generalize fbits a.toNat = x at *
  generalize fbits b.toNat = y at *
  have HF0 := Lib.hid HCS.out
  clear HCS
  obtain ⟨f, hf⟩ : ∃ f : Int, f = ford x y := ⟨_, rfl⟩
  rw [← hf] at HOR HFO
  clear hf
  obtain ⟨sm, hsm⟩ : ∃ r : Bool, r = (x == y) := ⟨_, rfl⟩
  rw [← hsm] at HSR HF0
  have HSM0 := Lib.hid hsm
  go_enter Try.func5, Try.ntmps5
  go_wp2_with (first
    | (go_at_call 9; refine (awake_any _).mono ?_; rintro e w1 ⟨rfl, q1⟩; (have Q1 := Lib.hid q1); clear q1)
    | (go_at_call 20; refine (HCA.out _).mono ?_; rintro e w' ⟨rfl, rfl⟩)
    | (go_at_call 20; refine (HCB.out _).mono ?_; rintro e w' ⟨rfl, rfl⟩))
  refine (real_any x _).mono ?_
  rintro e w2 ⟨A7, c7, rfl, l7, q2⟩
  have L7 := Lib.hid l7; have Q2 := Lib.hid (Q1.out.trans q2); clear l7 q2
  go_wp2_with fail
  refine (real_any y _).mono ?_
  rintro e w3 ⟨A8, c8, rfl, l8, q3⟩
  have L8 := Lib.hid l8; have L7 := Lib.hid (L7.out.up q3); have Q3 := Lib.hid (Q2.out.trans q3); clear q3 l8
  obtain ⟨g7, hg7⟩ : ∃ g, g = w3.heap.size := ⟨_, rfl⟩
  obtain ⟨g8, hg8⟩ : ∃ g, g = w3.heap.size + 1 := ⟨_, rfl⟩
  have HG7 := Lib.hid hg7
  have HG8 := Lib.hid hg8
  have hgg : g7 ≠ g8 := by omega
  have hga : w3.heap.size ≤ g7 := by omega
  have hgb : w3.heap.size ≤ g8 := by omega
  clear hg7 hg8
  go_wp2_with (first
    | (refine armSt rfl 24 (.tmp 7) (.tmp 16) rfl w3.heap.size [.slice A7 1 c7] rfl rfl (t := 24) (old := [.slice none 0 0]) ((show Blk (w3.alloc (.cells #[.slice none 0 0] 24)) _ _ [.slice none 0 0] from heap_alloc_new w3 _).alloc _) (by kernel_rfl) rfl (by intro u hu; rw [List.mem_singleton.1 hu]; rfl) ?_; intro w4 og4 hz4 hb4; (have hb8 : Blk w4 (w3.heap.size + 1) 24 [.slice none 0 0] := (show Blk ((w3.alloc (.cells #[.slice none 0 0] 24)).alloc (.cells #[.slice none 0 0] 24)) (w3.heap.size + 1) 24 [.slice none 0 0] by (have h := heap_alloc_new (w3.alloc (.cells #[.slice none 0 0] 24)) (.cells #[.slice none 0 0] 24)); rw [show (w3.alloc (.cells #[.slice none 0 0] 24)).heap.size = w3.heap.size + 1 from by simp] at h; exact h).og og4 (by omega)); (have H7 := Lib.hid hb4); (have H8 := Lib.hid hb8); (have Q4 := Lib.hid (show Qt w3 w4 from og4.qt (((Qt.refl w3).alloc _).alloc _) (Nat.le_refl _))); clear og4 hb4 hb8)
    | (refine armSt rfl 24 (.tmp 8) (.tmp 18) rfl (w3.heap.size + 1) [.slice A8 1 c8] rfl rfl (t := 24) (old := [.slice none 0 0]) H8.out (by kernel_rfl) rfl (by intro u hu; rw [List.mem_singleton.1 hu]; rfl) ?_; intro w5 og5 hz5 hb5; (have h75 := H7.out.og og5 (by omega)); (have q5 : Qt w3 w5 := og5.qt Q4.out (by omega)); (have H7 := Lib.hid (show Blk w5 g7 24 [.slice A7 1 c7] by rw [HG7.out]; exact h75)); (have H8 := Lib.hid (show Blk w5 g8 24 [.slice A8 1 c8] by rw [HG8.out]; exact hb5)); (have L7 := Lib.hid (L7.out.up q5)); (have L8 := Lib.hid (L8.out.up q5)); (have Q5 := Lib.hid (Q3.out.trans q5)); rw [← HG8.out, ← HG7.out]; clear og5 hb5 h75 q5)
    | (refine armLd rfl 24 (.tmp 7) rfl g7 rfl H7.out (.struct ts) HTS.out rfl (by kernel_rfl) ?_))
  refine (Right_any' (real1 x) _ _ _ (show 1 ≤ 1000000 by decide) L7.out (fun _ h => h)).mono ?_
  rintro e w6 ⟨rfl, q6⟩
  rw [HFX.out]
  have H7 := Lib.hid (H7.out.qt q6); have H8 := Lib.hid (H8.out.qt q6); have L7 := Lib.hid (L7.out.up q6); have L8 := Lib.hid (L8.out.up q6); have Q6 := Lib.hid (Q5.out.trans q6); clear q6
  rw [show (x == x) = true from by simp]
  go_wp2_with fail
  refine (real_any a _).mono ?_
  rintro e w7 ⟨A9, c9, rfl, l9, q7⟩
  have H7 := Lib.hid (H7.out.qt q7); have H8 := Lib.hid (H8.out.qt q7); have L7 := Lib.hid (L7.out.up q7); have L8 := Lib.hid (L8.out.up q7); have Q7 := Lib.hid (Q6.out.trans q7); have L9 := Lib.hid l9; clear q7 l9
  go_wp2_with fail
  refine (Right_any' (real1 a) _ _ _ (show 1 ≤ 1000000 by decide) L9.out (fun _ h => h)).mono ?_
  rintro e w8 ⟨rfl, q8⟩
  rw [HFA.out]
  have H7 := Lib.hid (H7.out.qt q8); have H8 := Lib.hid (H8.out.qt q8); have L7 := Lib.hid (L7.out.up q8); have L8 := Lib.hid (L8.out.up q8); have Q8 := Lib.hid (Q7.out.trans q8); clear q8
  go_wp2_with (first
    | (go_at_call 22; refine (HRA.out _).mono ?_; rintro e w' ⟨rfl, rfl⟩)
    | (refine armLdG 24 (.tmp 7) rfl g7 rfl H7.out (.struct ts) HTS.out rfl (by kernel_rfl) rfl ?_)
    | (refine armLdG 24 (.tmp 8) rfl g8 rfl H8.out (.struct ts) HTS.out rfl (by kernel_rfl) rfl ?_))
  refine (Order_any (real1 x) (real1 y) _ _ _ _ _ (show 1 ≤ 1000000 by decide) (show 1 ≤ 1000000 by decide) L7.out L8.out (fun _ h => h) (fun _ h => h)).mono ?_
  rintro e wa ⟨rfl, qa⟩
  rw [HOR.out]
  have H7 := Lib.hid (H7.out.qt qa); have H8 := Lib.hid (H8.out.qt qa); have L7 := Lib.hid (L7.out.up qa); have L8 := Lib.hid (L8.out.up qa); have QA := Lib.hid (Q8.out.trans qa); clear qa
  go_wp2_with (first
    | (go_at_call 23; refine (HFO.out _).mono ?_; rintro e w' ⟨rfl, rfl⟩)
    | (refine armLdG 24 (.tmp 7) rfl g7 rfl H7.out (.struct ts) HTS.out rfl (by kernel_rfl) rfl ?_)
    | (refine armLdG 24 (.tmp 8) rfl g8 rfl H8.out (.struct ts) HTS.out rfl (by kernel_rfl) rfl ?_))
  refine (Same_any (real1 x) (real1 y) _ _ _ _ _ (show 1 ≤ 1000000 by decide) (show 1 ≤ 1000000 by decide) L7.out L8.out (fun _ h => h) (fun _ h => h)).mono ?_
  rintro e u0 ⟨rfl, qb⟩
  rw [HSR.out]
  have H7 := Lib.hid (H7.out.qt qb); have H8 := Lib.hid (H8.out.qt qb); have L7 := Lib.hid (L7.out.up qb); have L8 := Lib.hid (L8.out.up qb); have QB := Lib.hid (QA.out.trans qb); clear qb
  have HSM := Lib.hid (fun w' (q : Qt u0 w') => (Same_any (real1 x) (real1 y) _ _ _ _ w' (show 1 ≤ 1000000 by decide) (show 1 ≤ 1000000 by decide) (L7.out.up q) (L8.out.up q) (fun _ h => h) (fun _ h => h)).mono (fun e w'' (h : e = .returned (.bool (sameL (real1 x) (real1 y))) ∧ Qt w' w'') => (show e = .returned (.bool sm) ∧ Qt w' w'' by rw [← HSR.out]; exact h)))
  go_wp2
  rcases HF0.out with hF | ⟨hx, hy, hF⟩ | ⟨hx, hy, hF⟩ | ⟨hx, hy, hF⟩
  · have HF := Lib.hid hF
    clear hF hsm
    refine wp_region_held (S := (fun u => u.rangeAt g7 0 [.slice A7 1 c7] ∧ u.rangeAt g8 0 [.slice A8 1 c8])) (by kernel_rfl) ?_
    change wpAnyH _ _ _ _ _ _ _ _ (World.drew _)
    refine genT fun F0 hA => ?_
    have z0 : F0.tmps.size = 70 := by rw [hA]; rfl
    have e5_0 : F0.eval (.tmp 5) = .int .u64 x := by rw [hA]; rfl
    have e6_0 : F0.eval (.tmp 6) = .int .u64 y := by rw [hA]; rfl
    have e7_0 : F0.eval (.tmp 7) = .pointer (some ⟨g7, 0, none⟩) := by rw [hA]; rfl
    have e8_0 : F0.eval (.tmp 8) = .pointer (some ⟨g8, 0, none⟩) := by rw [hA]; rfl
    have HA := Lib.hid hA
    clear hA
    have HS := Lib.hid (show World.rangeAt u0.drew _ _ _ ∧ World.rangeAt u0.drew _ _ _ from ⟨(show Blk u0.drew g7 _ _ from H7.out).range 0 [.slice A7 1 c7] rfl, (show Blk u0.drew g8 _ _ from H8.out).range 0 [.slice A8 1 c8] rfl⟩)
    refine tkT (i := 0) (oi := _) (v := .int .u64 x) rfl (by kernel_rfl) (by kernel_rfl) (by kernel_rfl) (fun _ _ _ h => h) HS.out (wantedT rfl) (fun w _ => mvT rfl e5_0 w) ?_
    intro F1 hF
    replace hF : F1 = F0.put (some 48) (.int .u64 x) := hF
    have z1 : F1.tmps.size = 70 := by rw [hF]; simpa [Act.put] using z0
    have e6_1 := (show F1.eval (.tmp 6) = F0.eval (.tmp 6) by rw [hF]; exact evO (by decide)).trans e6_0
    have e7_1 := (show F1.eval (.tmp 7) = F0.eval (.tmp 7) by rw [hF]; exact evO (by decide)).trans e7_0
    have e8_1 := (show F1.eval (.tmp 8) = F0.eval (.tmp 8) by rw [hF]; exact evO (by decide)).trans e8_0
    have e48_1 : F1.eval (.tmp 48) = .int .u64 x := by rw [hF]; exact evS (by rw [z0]; decide)
    have HF1 := Lib.hid hF
    clear hF e5_0 e6_0 e7_0 e8_0
    refine tkT (i := 1) (oi := _) (v := .int .u64 y) rfl (by kernel_rfl) (by kernel_rfl) (by kernel_rfl) (fun _ _ _ h => h) HS.out (wantedT rfl) (fun w _ => mvT rfl e6_1 w) ?_
    intro F2 hF
    replace hF : F2 = F1.put (some 49) (.int .u64 y) := hF
    have z2 : F2.tmps.size = 70 := by rw [hF]; simpa [Act.put] using z1
    have e7_2 := (show F2.eval (.tmp 7) = F1.eval (.tmp 7) by rw [hF]; exact evO (by decide)).trans e7_1
    have e8_2 := (show F2.eval (.tmp 8) = F1.eval (.tmp 8) by rw [hF]; exact evO (by decide)).trans e8_1
    have e48_2 := (show F2.eval (.tmp 48) = F1.eval (.tmp 48) by rw [hF]; exact evO (by decide)).trans e48_1
    have e49_2 : F2.eval (.tmp 49) = .int .u64 y := by rw [hF]; exact evS (by rw [z1]; decide)
    have HF2 := Lib.hid hF
    clear hF e6_1 e7_1 e8_1 e48_1
    refine tkT (i := 3) (oi := _) (v := .agg #[.slice A7 1 c7]) rfl (by kernel_rfl) (by kernel_rfl) (by kernel_rfl) (fun _ _ _ h => h) HS.out (wantedT rfl) (fun w hs => lrT rfl e7_2 hs.1 (d := .struct ts) HTS.out rfl (by kernel_rfl)) ?_
    intro F3 hF
    replace hF : F3 = F2.put (some 51) (.agg #[.slice A7 1 c7]) := hF
    have z3 : F3.tmps.size = 70 := by rw [hF]; simpa [Act.put] using z2
    have e8_3 := (show F3.eval (.tmp 8) = F2.eval (.tmp 8) by rw [hF]; exact evO (by decide)).trans e8_2
    have e48_3 := (show F3.eval (.tmp 48) = F2.eval (.tmp 48) by rw [hF]; exact evO (by decide)).trans e48_2
    have e49_3 := (show F3.eval (.tmp 49) = F2.eval (.tmp 49) by rw [hF]; exact evO (by decide)).trans e49_2
    have e51_3 : F3.eval (.tmp 51) = .agg #[.slice A7 1 c7] := by rw [hF]; exact evS (by rw [z2]; decide)
    have HF3 := Lib.hid hF
    clear hF e7_2 e8_2 e48_2 e49_2
    refine tkT (i := 4) (oi := _) (v := .agg #[.slice A8 1 c8]) rfl (by kernel_rfl) (by kernel_rfl) (by kernel_rfl) (fun _ _ _ h => h) HS.out (wantedT rfl) (fun w hs => lrT rfl e8_3 hs.2 (d := .struct ts) HTS.out rfl (by kernel_rfl)) ?_
    intro F4 hF
    replace hF : F4 = F3.put (some 52) (.agg #[.slice A8 1 c8]) := hF
    have z4 : F4.tmps.size = 70 := by rw [hF]; simpa [Act.put] using z3
    have e48_4 := (show F4.eval (.tmp 48) = F3.eval (.tmp 48) by rw [hF]; exact evO (by decide)).trans e48_3
    have e49_4 := (show F4.eval (.tmp 49) = F3.eval (.tmp 49) by rw [hF]; exact evO (by decide)).trans e49_3
    have e51_4 := (show F4.eval (.tmp 51) = F3.eval (.tmp 51) by rw [hF]; exact evO (by decide)).trans e51_3
    have e52_4 : F4.eval (.tmp 52) = .agg #[.slice A8 1 c8] := by rw [hF]; exact evS (by rw [z3]; decide)
    have HF4 := Lib.hid hF
    clear hF e8_3 e48_3 e49_3 e51_3
    refine aloneT (i := 2) (oi := _) rfl (by kernel_rfl) (wantedT rfl) ?_
    refine wpCall (clT (f := 24) (args := #[.int .u64 x, .int .u64 y]) rfl (by simp only [List.map_toArray, List.map_cons, List.map_nil, e48_4, e49_4] <;> rfl) (fun args w => by kernel_rfl)) (fun v w' => v = .bool sm ∧ w' = u0.drew) ((Fl.Same_any _ _ _).mono (by rintro e w' ⟨rfl, rfl⟩; exact ⟨_, rfl, by first | rfl | rw [HF.out], rfl⟩)) ?_
    rintro v w' ⟨rfl, rfl⟩
    refine ⟨HS.out, genT fun F5 hF => ?_⟩
    have HS := Lib.hid (HS.out)
    replace hF : F5 = F4.put (some 50) (.bool sm) := hF
    have z5 : F5.tmps.size = 70 := by rw [hF]; simpa [Act.put] using z4
    have e50_5 : F5.eval (.tmp 50) = .bool sm := by rw [hF]; exact evS (by rw [z4]; decide)
    have e51_5 := (show F5.eval (.tmp 51) = F4.eval (.tmp 51) by rw [hF]; exact evO (by decide)).trans e51_4
    have e52_5 := (show F5.eval (.tmp 52) = F4.eval (.tmp 52) by rw [hF]; exact evO (by decide)).trans e52_4
    have HF5 := Lib.hid hF
    clear hF e48_4 e49_4 e51_4 e52_4
    refine aloneT (i := 5) (oi := _) rfl (by kernel_rfl) (wantedT rfl) ?_
    refine wpCall (clT (f := 18) (args := #[.agg #[.slice A7 1 c7], .agg #[.slice A8 1 c8]]) rfl (by simp only [List.map_toArray, List.map_cons, List.map_nil, e51_5, e52_5] <;> rfl) (fun args w => by kernel_rfl)) (fun v w' => v = .bool sm ∧ Qt u0.drew w') ((HSM.out u0.drew (Qt.refl u0).drew).mono (by rintro e w' ⟨rfl, q⟩; exact ⟨_, rfl, rfl, q⟩)) ?_
    rintro v w9 ⟨rfl, q9⟩
    refine ⟨And.intro (rangeQt HS.out.1 q9) (rangeQt HS.out.2 q9), genT fun F6 hF => ?_⟩
    have HS := Lib.hid (And.intro (rangeQt HS.out.1 q9) (rangeQt HS.out.2 q9))
    replace hF : F6 = F5.put (some 53) (.bool sm) := hF
    have z6 : F6.tmps.size = 70 := by rw [hF]; simpa [Act.put] using z5
    have e50_6 := (show F6.eval (.tmp 50) = F5.eval (.tmp 50) by rw [hF]; exact evO (by decide)).trans e50_5
    have e53_6 : F6.eval (.tmp 53) = .bool sm := by rw [hF]; exact evS (by rw [z5]; decide)
    have HF6 := Lib.hid hF
    clear hF e50_5 e51_5 e52_5
    refine tkT (i := 6) (oi := _) (v := .bool true) rfl (by kernel_rfl) (by kernel_rfl) (by kernel_rfl) (fun _ _ _ h => h) HS.out (wantedT rfl) (fun w hs => boT rfl e50_6 e53_6 (by go_simp) (by go_simp)) ?_
    intro F7 hF
    replace hF : F7 = F6.put (some 54) (.bool true) := hF
    have z7 : F7.tmps.size = 70 := by rw [hF]; simpa [Act.put] using z6
    have e54_7 : F7.eval (.tmp 54) = .bool true := by rw [hF]; exact evS (by rw [z6]; decide)
    have HF7 := Lib.hid hF
    clear hF e50_6 e53_6
    refine tkT (i := 7) (oi := _) (v := .bool true) rfl (by kernel_rfl) (by kernel_rfl) (by kernel_rfl) (fun _ _ _ h => h) HS.out (wantedT rfl) (fun w _ => mvT rfl e54_7 w) ?_
    intro F8 hF
    replace hF : F8 = F7.put (some 55) (.bool true) := hF
    have z8 : F8.tmps.size = 70 := by rw [hF]; simpa [Act.put] using z7
    have e55_8 : F8.eval (.tmp 55) = .bool true := by rw [hF]; exact evS (by rw [z7]; decide)
    have HF8 := Lib.hid hF
    clear hF e54_7
    refine skT (i := 8) (oi := _) rfl (by kernel_rfl) (by kernel_rfl) (by kernel_rfl) (fun _ _ _ h => h) HS.out (by rw [wantedG (d := 55) rfl rfl e55_8 (by rw [z8]; decide)]; rfl) ?_
    intro F9 hF
    replace hF : F9 = F8.put (some 56) (undef) := hF
    have z9 : F9.tmps.size = 70 := by rw [hF]; simpa [Act.put] using z8
    have e55_9 := (show F9.eval (.tmp 55) = F8.eval (.tmp 55) by rw [hF]; exact evO (by decide)).trans e55_8
    have HF9 := Lib.hid hF
    clear hF e55_8
    refine skT (i := 9) (oi := _) rfl (by kernel_rfl) (by kernel_rfl) (by kernel_rfl) (fun _ _ _ h => h) HS.out (by rw [wantedG (d := 55) rfl rfl e55_9 (by rw [z9]; decide)]; rfl) ?_
    intro F10 hF
    replace hF : F10 = F9.put (some 57) (undef) := hF
    have z10 : F10.tmps.size = 70 := by rw [hF]; simpa [Act.put] using z9
    have e55_10 := (show F10.eval (.tmp 55) = F9.eval (.tmp 55) by rw [hF]; exact evO (by decide)).trans e55_9
    have HF10 := Lib.hid hF
    clear hF e55_9
    refine skT (i := 10) (oi := _) rfl (by kernel_rfl) (by kernel_rfl) (by kernel_rfl) (fun _ _ _ h => h) HS.out (by rw [wantedG (d := 55) rfl rfl e55_10 (by rw [z10]; decide)]; rfl) ?_
    intro F11 hF
    replace hF : F11 = F10.put (some 58) (undef) := hF
    have z11 : F11.tmps.size = 70 := by rw [hF]; simpa [Act.put] using z10
    have e55_11 := (show F11.eval (.tmp 55) = F10.eval (.tmp 55) by rw [hF]; exact evO (by decide)).trans e55_10
    have e58_11 : F11.eval (.tmp 58) = undef := by rw [hF]; exact evS (by rw [z10]; decide)
    have HF11 := Lib.hid hF
    clear hF e55_10
    refine skT (i := 11) (oi := _) rfl (by kernel_rfl) (by kernel_rfl) (by kernel_rfl) (fun _ _ _ h => h) HS.out (wantedU (d := 58) rfl rfl e58_11 (by rw [z11]; decide)) ?_
    intro F12 hF
    replace hF : F12 = F11.put (some 59) (undef) := hF
    have z12 : F12.tmps.size = 70 := by rw [hF]; simpa [Act.put] using z11
    have e55_12 := (show F12.eval (.tmp 55) = F11.eval (.tmp 55) by rw [hF]; exact evO (by decide)).trans e55_11
    have e58_12 := (show F12.eval (.tmp 58) = F11.eval (.tmp 58) by rw [hF]; exact evO (by decide)).trans e58_11
    have HF12 := Lib.hid hF
    clear hF e55_11 e58_11
    refine skT (i := 12) (oi := _) rfl (by kernel_rfl) (by kernel_rfl) (by kernel_rfl) (fun _ _ _ h => h) HS.out (wantedU (d := 58) rfl rfl e58_12 (by rw [z12]; decide)) ?_
    intro F13 hF
    replace hF : F13 = F12.put (some 60) (undef) := hF
    have z13 : F13.tmps.size = 70 := by rw [hF]; simpa [Act.put] using z12
    have e55_13 := (show F13.eval (.tmp 55) = F12.eval (.tmp 55) by rw [hF]; exact evO (by decide)).trans e55_12
    have HF13 := Lib.hid hF
    clear hF e55_12 e58_12
    refine skT (i := 13) (oi := _) rfl (by kernel_rfl) (by kernel_rfl) (by kernel_rfl) (fun _ _ _ h => h) HS.out (by rw [wantedG (d := 55) rfl rfl e55_13 (by rw [z13]; decide)]; rfl) ?_
    intro F14 hF
    replace hF : F14 = F13.put (some 61) (undef) := hF
    have z14 : F14.tmps.size = 70 := by rw [hF]; simpa [Act.put] using z13
    have e55_14 := (show F14.eval (.tmp 55) = F13.eval (.tmp 55) by rw [hF]; exact evO (by decide)).trans e55_13
    have e61_14 : F14.eval (.tmp 61) = undef := by rw [hF]; exact evS (by rw [z13]; decide)
    have HF14 := Lib.hid hF
    clear hF e55_13
    refine tkT (i := 14) (oi := _) (v := .bool true) rfl (by kernel_rfl) (by kernel_rfl) (by kernel_rfl) (fun _ _ _ h => h) HS.out (wantedT rfl) (fun w hs => pkT (vx := .bool true) rfl e55_14 rfl rfl w) ?_
    intro F15 hF
    replace hF : F15 = F14.put (some 62) (.bool true) := hF
    have z15 : F15.tmps.size = 70 := by rw [hF]; simpa [Act.put] using z14
    have e62_15 : F15.eval (.tmp 62) = .bool true := by rw [hF]; exact evS (by rw [z14]; decide)
    have HF15 := Lib.hid hF
    clear hF e55_14 e61_14
    refine tkT (i := 15) (oi := _) (v := .bool true) rfl (by kernel_rfl) (by kernel_rfl) (by kernel_rfl) (fun _ _ _ h => h) HS.out (wantedT rfl) (fun w _ => mvT rfl e62_15 w) ?_
    intro F16 hF
    replace hF : F16 = F15.put (some 63) (.bool true) := hF
    have z16 : F16.tmps.size = 70 := by rw [hF]; simpa [Act.put] using z15
    have e63_16 : F16.eval (.tmp 63) = .bool true := by rw [hF]; exact evS (by rw [z15]; decide)
    have HF16 := Lib.hid hF
    clear hF e62_15
    refine skT (i := 16) (oi := _) rfl (by kernel_rfl) (by kernel_rfl) (by kernel_rfl) (fun _ _ _ h => h) HS.out (by rw [wantedG (d := 63) rfl rfl e63_16 (by rw [z16]; decide)]; rfl) ?_
    intro F17 hF
    replace hF : F17 = F16.put (some 64) (undef) := hF
    have z17 : F17.tmps.size = 70 := by rw [hF]; simpa [Act.put] using z16
    have e63_17 := (show F17.eval (.tmp 63) = F16.eval (.tmp 63) by rw [hF]; exact evO (by decide)).trans e63_16
    have HF17 := Lib.hid hF
    clear hF e63_16
    refine skT (i := 17) (oi := _) rfl (by kernel_rfl) (by kernel_rfl) (by kernel_rfl) (fun _ _ _ h => h) HS.out (by rw [wantedG (d := 63) rfl rfl e63_17 (by rw [z17]; decide)]; rfl) ?_
    intro F18 hF
    replace hF : F18 = F17.put (some 65) (undef) := hF
    have z18 : F18.tmps.size = 70 := by rw [hF]; simpa [Act.put] using z17
    have e63_18 := (show F18.eval (.tmp 63) = F17.eval (.tmp 63) by rw [hF]; exact evO (by decide)).trans e63_17
    have HF18 := Lib.hid hF
    clear hF e63_17
    refine skT (i := 18) (oi := _) rfl (by kernel_rfl) (by kernel_rfl) (by kernel_rfl) (fun _ _ _ h => h) HS.out (by rw [wantedG (d := 63) rfl rfl e63_18 (by rw [z18]; decide)]; rfl) ?_
    intro F19 hF
    replace hF : F19 = F18.put (some 66) (undef) := hF
    have z19 : F19.tmps.size = 70 := by rw [hF]; simpa [Act.put] using z18
    have e63_19 := (show F19.eval (.tmp 63) = F18.eval (.tmp 63) by rw [hF]; exact evO (by decide)).trans e63_18
    have HF19 := Lib.hid hF
    clear hF e63_18
    refine skT (i := 19) (oi := _) rfl (by kernel_rfl) (by kernel_rfl) (by kernel_rfl) (fun _ _ _ h => h) HS.out (by rw [wantedG (d := 63) rfl rfl e63_19 (by rw [z19]; decide)]; rfl) ?_
    intro F20 hF
    replace hF : F20 = F19.put (some 67) (undef) := hF
    have z20 : F20.tmps.size = 70 := by rw [hF]; simpa [Act.put] using z19
    have e63_20 := (show F20.eval (.tmp 63) = F19.eval (.tmp 63) by rw [hF]; exact evO (by decide)).trans e63_19
    have HF20 := Lib.hid hF
    clear hF e63_19
    refine skT (i := 20) (oi := _) rfl (by kernel_rfl) (by kernel_rfl) (by kernel_rfl) (fun _ _ _ h => h) HS.out (by rw [wantedG (d := 63) rfl rfl e63_20 (by rw [z20]; decide)]; rfl) ?_
    intro F21 hF
    replace hF : F21 = F20.put (some 68) (undef) := hF
    have z21 : F21.tmps.size = 70 := by rw [hF]; simpa [Act.put] using z20
    have e63_21 := (show F21.eval (.tmp 63) = F20.eval (.tmp 63) by rw [hF]; exact evO (by decide)).trans e63_20
    have e68_21 : F21.eval (.tmp 68) = undef := by rw [hF]; exact evS (by rw [z20]; decide)
    have HF21 := Lib.hid hF
    clear hF e63_20
    refine tkT (i := 21) (oi := _) (v := .bool true) rfl (by kernel_rfl) (by kernel_rfl) (by kernel_rfl) (fun _ _ _ h => h) HS.out (wantedT rfl) (fun w hs => pkT (vx := .bool true) rfl e63_21 rfl rfl w) ?_
    intro F22 hF
    replace hF : F22 = F21.put (some 69) (.bool true) := hF
    have z22 : F22.tmps.size = 70 := by rw [hF]; simpa [Act.put] using z21
    have e69_22 : F22.eval (.tmp 69) = .bool true := by rw [hF]; exact evS (by rw [z21]; decide)
    have HF22 := Lib.hid hF
    clear hF e63_21 e68_21
    refine tkT (i := 22) (oi := _) (v := .bool true) rfl (by kernel_rfl) (by kernel_rfl) (by kernel_rfl) (fun _ _ _ h => h) HS.out (wantedT rfl) (fun w _ => asT rfl e69_22 w) ?_
    intro F23 hF
    replace hF : F23 = F22.put (some 4) (.bool true) := hF
    have z23 : F23.tmps.size = 70 := by rw [hF]; simpa [Act.put] using z22
    have HF23 := Lib.hid hF
    clear hF e69_22
    refine wpAnyH_done (by kernel_rfl) ?_ _
    rw [HF23.out, HF22.out, HF21.out, HF20.out, HF19.out, HF18.out, HF17.out, HF16.out, HF15.out, HF14.out, HF13.out, HF12.out, HF11.out, HF10.out, HF9.out, HF8.out, HF7.out, HF6.out, HF5.out, HF4.out, HF3.out, HF2.out, HF1.out, HA.out]
    simp only [Act.put, List.setIfInBounds_toArray, List.set_cons_succ, List.set_cons_zero]
    clear HF23 HF22 HF21 HF20 HF19 HF18 HF17 HF16 HF15 HF14 HF13 HF12 HF11 HF10 HF9 HF8 HF7 HF6 HF5 HF4 HF3 HF2 HF1 HA z23 z22 z21 z20 z19 z18 z17 z16 z15 z14 z13 z12 z11 z10 z9 z8 z7 z6 z5 z4 z3 z2 z1 z0 
    go_wp2
    go_ret
    exact ⟨rfl, QB.out.trans ((Qt.refl u0).drew.trans q9)⟩
  · have hs : sm = true := by rw [HSM0.out, hx, hy]; rfl
    subst hs
    subst hx hy
    have HF := Lib.hid hF
    clear hF hsm
    refine wp_region_held (S := (fun u => u.rangeAt g7 0 [.slice A7 1 c7] ∧ u.rangeAt g8 0 [.slice A8 1 c8])) (by kernel_rfl) ?_
    change wpAnyH _ _ _ _ _ _ _ _ (World.drew _)
    refine genT fun F0 hA => ?_
    have z0 : F0.tmps.size = 70 := by rw [hA]; rfl
    have e5_0 : F0.eval (.tmp 5) = .int .u64 9221120237041090560 := by rw [hA]; rfl
    have e6_0 : F0.eval (.tmp 6) = .int .u64 9221120237041090560 := by rw [hA]; rfl
    have e7_0 : F0.eval (.tmp 7) = .pointer (some ⟨g7, 0, none⟩) := by rw [hA]; rfl
    have e8_0 : F0.eval (.tmp 8) = .pointer (some ⟨g8, 0, none⟩) := by rw [hA]; rfl
    have HA := Lib.hid hA
    clear hA
    have HS := Lib.hid (show World.rangeAt u0.drew _ _ _ ∧ World.rangeAt u0.drew _ _ _ from ⟨(show Blk u0.drew g7 _ _ from H7.out).range 0 [.slice A7 1 c7] rfl, (show Blk u0.drew g8 _ _ from H8.out).range 0 [.slice A8 1 c8] rfl⟩)
    refine tkT (i := 0) (oi := _) (v := .int .u64 9221120237041090560) rfl (by kernel_rfl) (by kernel_rfl) (by kernel_rfl) (fun _ _ _ h => h) HS.out (wantedT rfl) (fun w _ => mvT rfl e5_0 w) ?_
    intro F1 hF
    replace hF : F1 = F0.put (some 48) (.int .u64 9221120237041090560) := hF
    have z1 : F1.tmps.size = 70 := by rw [hF]; simpa [Act.put] using z0
    have e5_1 := (show F1.eval (.tmp 5) = F0.eval (.tmp 5) by rw [hF]; exact evO (by decide)).trans e5_0
    have e6_1 := (show F1.eval (.tmp 6) = F0.eval (.tmp 6) by rw [hF]; exact evO (by decide)).trans e6_0
    have e7_1 := (show F1.eval (.tmp 7) = F0.eval (.tmp 7) by rw [hF]; exact evO (by decide)).trans e7_0
    have e8_1 := (show F1.eval (.tmp 8) = F0.eval (.tmp 8) by rw [hF]; exact evO (by decide)).trans e8_0
    have e48_1 : F1.eval (.tmp 48) = .int .u64 9221120237041090560 := by rw [hF]; exact evS (by rw [z0]; decide)
    have HF1 := Lib.hid hF
    clear hF e5_0 e6_0 e7_0 e8_0
    refine tkT (i := 1) (oi := _) (v := .int .u64 9221120237041090560) rfl (by kernel_rfl) (by kernel_rfl) (by kernel_rfl) (fun _ _ _ h => h) HS.out (wantedT rfl) (fun w _ => mvT rfl e6_1 w) ?_
    intro F2 hF
    replace hF : F2 = F1.put (some 49) (.int .u64 9221120237041090560) := hF
    have z2 : F2.tmps.size = 70 := by rw [hF]; simpa [Act.put] using z1
    have e5_2 := (show F2.eval (.tmp 5) = F1.eval (.tmp 5) by rw [hF]; exact evO (by decide)).trans e5_1
    have e6_2 := (show F2.eval (.tmp 6) = F1.eval (.tmp 6) by rw [hF]; exact evO (by decide)).trans e6_1
    have e7_2 := (show F2.eval (.tmp 7) = F1.eval (.tmp 7) by rw [hF]; exact evO (by decide)).trans e7_1
    have e8_2 := (show F2.eval (.tmp 8) = F1.eval (.tmp 8) by rw [hF]; exact evO (by decide)).trans e8_1
    have e48_2 := (show F2.eval (.tmp 48) = F1.eval (.tmp 48) by rw [hF]; exact evO (by decide)).trans e48_1
    have e49_2 : F2.eval (.tmp 49) = .int .u64 9221120237041090560 := by rw [hF]; exact evS (by rw [z1]; decide)
    have HF2 := Lib.hid hF
    clear hF e5_1 e6_1 e7_1 e8_1 e48_1
    refine tkT (i := 3) (oi := _) (v := .agg #[.slice A7 1 c7]) rfl (by kernel_rfl) (by kernel_rfl) (by kernel_rfl) (fun _ _ _ h => h) HS.out (wantedT rfl) (fun w hs => lrT rfl e7_2 hs.1 (d := .struct ts) HTS.out rfl (by kernel_rfl)) ?_
    intro F3 hF
    replace hF : F3 = F2.put (some 51) (.agg #[.slice A7 1 c7]) := hF
    have z3 : F3.tmps.size = 70 := by rw [hF]; simpa [Act.put] using z2
    have e5_3 := (show F3.eval (.tmp 5) = F2.eval (.tmp 5) by rw [hF]; exact evO (by decide)).trans e5_2
    have e6_3 := (show F3.eval (.tmp 6) = F2.eval (.tmp 6) by rw [hF]; exact evO (by decide)).trans e6_2
    have e8_3 := (show F3.eval (.tmp 8) = F2.eval (.tmp 8) by rw [hF]; exact evO (by decide)).trans e8_2
    have e48_3 := (show F3.eval (.tmp 48) = F2.eval (.tmp 48) by rw [hF]; exact evO (by decide)).trans e48_2
    have e49_3 := (show F3.eval (.tmp 49) = F2.eval (.tmp 49) by rw [hF]; exact evO (by decide)).trans e49_2
    have e51_3 : F3.eval (.tmp 51) = .agg #[.slice A7 1 c7] := by rw [hF]; exact evS (by rw [z2]; decide)
    have HF3 := Lib.hid hF
    clear hF e5_2 e6_2 e7_2 e8_2 e48_2 e49_2
    refine tkT (i := 4) (oi := _) (v := .agg #[.slice A8 1 c8]) rfl (by kernel_rfl) (by kernel_rfl) (by kernel_rfl) (fun _ _ _ h => h) HS.out (wantedT rfl) (fun w hs => lrT rfl e8_3 hs.2 (d := .struct ts) HTS.out rfl (by kernel_rfl)) ?_
    intro F4 hF
    replace hF : F4 = F3.put (some 52) (.agg #[.slice A8 1 c8]) := hF
    have z4 : F4.tmps.size = 70 := by rw [hF]; simpa [Act.put] using z3
    have e5_4 := (show F4.eval (.tmp 5) = F3.eval (.tmp 5) by rw [hF]; exact evO (by decide)).trans e5_3
    have e6_4 := (show F4.eval (.tmp 6) = F3.eval (.tmp 6) by rw [hF]; exact evO (by decide)).trans e6_3
    have e48_4 := (show F4.eval (.tmp 48) = F3.eval (.tmp 48) by rw [hF]; exact evO (by decide)).trans e48_3
    have e49_4 := (show F4.eval (.tmp 49) = F3.eval (.tmp 49) by rw [hF]; exact evO (by decide)).trans e49_3
    have e51_4 := (show F4.eval (.tmp 51) = F3.eval (.tmp 51) by rw [hF]; exact evO (by decide)).trans e51_3
    have e52_4 : F4.eval (.tmp 52) = .agg #[.slice A8 1 c8] := by rw [hF]; exact evS (by rw [z3]; decide)
    have HF4 := Lib.hid hF
    clear hF e5_3 e6_3 e8_3 e48_3 e49_3 e51_3
    refine aloneT (i := 2) (oi := _) rfl (by kernel_rfl) (wantedT rfl) ?_
    refine wpCall (clT (f := 24) (args := #[.int .u64 9221120237041090560, .int .u64 9221120237041090560]) rfl (by simp only [List.map_toArray, List.map_cons, List.map_nil, e48_4, e49_4] <;> rfl) (fun args w => by kernel_rfl)) (fun v w' => v = .bool false ∧ w' = u0.drew) ((Fl.Same_any _ _ _).mono (by rintro e w' ⟨rfl, rfl⟩; exact ⟨_, rfl, by first | rfl | rw [HF.out], rfl⟩)) ?_
    rintro v w' ⟨rfl, rfl⟩
    refine ⟨HS.out, genT fun F5 hF => ?_⟩
    have HS := Lib.hid (HS.out)
    replace hF : F5 = F4.put (some 50) (.bool false) := hF
    have z5 : F5.tmps.size = 70 := by rw [hF]; simpa [Act.put] using z4
    have e5_5 := (show F5.eval (.tmp 5) = F4.eval (.tmp 5) by rw [hF]; exact evO (by decide)).trans e5_4
    have e6_5 := (show F5.eval (.tmp 6) = F4.eval (.tmp 6) by rw [hF]; exact evO (by decide)).trans e6_4
    have e50_5 : F5.eval (.tmp 50) = .bool false := by rw [hF]; exact evS (by rw [z4]; decide)
    have e51_5 := (show F5.eval (.tmp 51) = F4.eval (.tmp 51) by rw [hF]; exact evO (by decide)).trans e51_4
    have e52_5 := (show F5.eval (.tmp 52) = F4.eval (.tmp 52) by rw [hF]; exact evO (by decide)).trans e52_4
    have HF5 := Lib.hid hF
    clear hF e5_4 e6_4 e48_4 e49_4 e51_4 e52_4
    refine aloneT (i := 5) (oi := _) rfl (by kernel_rfl) (wantedT rfl) ?_
    refine wpCall (clT (f := 18) (args := #[.agg #[.slice A7 1 c7], .agg #[.slice A8 1 c8]]) rfl (by simp only [List.map_toArray, List.map_cons, List.map_nil, e51_5, e52_5] <;> rfl) (fun args w => by kernel_rfl)) (fun v w' => v = .bool true ∧ Qt u0.drew w') ((HSM.out u0.drew (Qt.refl u0).drew).mono (by rintro e w' ⟨rfl, q⟩; exact ⟨_, rfl, rfl, q⟩)) ?_
    rintro v w9 ⟨rfl, q9⟩
    refine ⟨And.intro (rangeQt HS.out.1 q9) (rangeQt HS.out.2 q9), genT fun F6 hF => ?_⟩
    have HS := Lib.hid (And.intro (rangeQt HS.out.1 q9) (rangeQt HS.out.2 q9))
    replace hF : F6 = F5.put (some 53) (.bool true) := hF
    have z6 : F6.tmps.size = 70 := by rw [hF]; simpa [Act.put] using z5
    have e5_6 := (show F6.eval (.tmp 5) = F5.eval (.tmp 5) by rw [hF]; exact evO (by decide)).trans e5_5
    have e6_6 := (show F6.eval (.tmp 6) = F5.eval (.tmp 6) by rw [hF]; exact evO (by decide)).trans e6_5
    have e50_6 := (show F6.eval (.tmp 50) = F5.eval (.tmp 50) by rw [hF]; exact evO (by decide)).trans e50_5
    have e53_6 : F6.eval (.tmp 53) = .bool true := by rw [hF]; exact evS (by rw [z5]; decide)
    have HF6 := Lib.hid hF
    clear hF e5_5 e6_5 e50_5 e51_5 e52_5
    refine tkT (i := 6) (oi := _) (v := .bool false) rfl (by kernel_rfl) (by kernel_rfl) (by kernel_rfl) (fun _ _ _ h => h) HS.out (wantedT rfl) (fun w hs => boT rfl e50_6 e53_6 (by go_simp) (by go_simp)) ?_
    intro F7 hF
    replace hF : F7 = F6.put (some 54) (.bool false) := hF
    have z7 : F7.tmps.size = 70 := by rw [hF]; simpa [Act.put] using z6
    have e5_7 := (show F7.eval (.tmp 5) = F6.eval (.tmp 5) by rw [hF]; exact evO (by decide)).trans e5_6
    have e6_7 := (show F7.eval (.tmp 6) = F6.eval (.tmp 6) by rw [hF]; exact evO (by decide)).trans e6_6
    have e54_7 : F7.eval (.tmp 54) = .bool false := by rw [hF]; exact evS (by rw [z6]; decide)
    have HF7 := Lib.hid hF
    clear hF e5_6 e6_6 e50_6 e53_6
    refine tkT (i := 7) (oi := _) (v := .bool false) rfl (by kernel_rfl) (by kernel_rfl) (by kernel_rfl) (fun _ _ _ h => h) HS.out (wantedT rfl) (fun w _ => mvT rfl e54_7 w) ?_
    intro F8 hF
    replace hF : F8 = F7.put (some 55) (.bool false) := hF
    have z8 : F8.tmps.size = 70 := by rw [hF]; simpa [Act.put] using z7
    have e5_8 := (show F8.eval (.tmp 5) = F7.eval (.tmp 5) by rw [hF]; exact evO (by decide)).trans e5_7
    have e6_8 := (show F8.eval (.tmp 6) = F7.eval (.tmp 6) by rw [hF]; exact evO (by decide)).trans e6_7
    have e55_8 : F8.eval (.tmp 55) = .bool false := by rw [hF]; exact evS (by rw [z7]; decide)
    have HF8 := Lib.hid hF
    clear hF e5_7 e6_7 e54_7
    refine tkT (i := 8) (oi := _) (v := .int .u64 9221120237041090560) rfl (by kernel_rfl) (by kernel_rfl) (by kernel_rfl) (fun _ _ _ h => h) HS.out (by rw [wantedG (d := 55) rfl rfl e55_8 (by rw [z8]; decide)]; rfl) (fun w _ => mvT rfl e5_8 w) ?_
    intro F9 hF
    replace hF : F9 = F8.put (some 56) (.int .u64 9221120237041090560) := hF
    have z9 : F9.tmps.size = 70 := by rw [hF]; simpa [Act.put] using z8
    have e6_9 := (show F9.eval (.tmp 6) = F8.eval (.tmp 6) by rw [hF]; exact evO (by decide)).trans e6_8
    have e55_9 := (show F9.eval (.tmp 55) = F8.eval (.tmp 55) by rw [hF]; exact evO (by decide)).trans e55_8
    have e56_9 : F9.eval (.tmp 56) = .int .u64 9221120237041090560 := by rw [hF]; exact evS (by rw [z8]; decide)
    have HF9 := Lib.hid hF
    clear hF e5_8 e6_8 e55_8
    refine tkT (i := 9) (oi := _) (v := .bool true) rfl (by kernel_rfl) (by kernel_rfl) (by kernel_rfl) (fun _ _ _ h => h) HS.out (by rw [wantedG (d := 55) rfl rfl e55_9 (by rw [z9]; decide)]; rfl) (fun w hs => boT rfl e56_9 rfl (by go_simp) (by go_simp)) ?_
    intro F10 hF
    replace hF : F10 = F9.put (some 57) (.bool true) := hF
    have z10 : F10.tmps.size = 70 := by rw [hF]; simpa [Act.put] using z9
    have e6_10 := (show F10.eval (.tmp 6) = F9.eval (.tmp 6) by rw [hF]; exact evO (by decide)).trans e6_9
    have e55_10 := (show F10.eval (.tmp 55) = F9.eval (.tmp 55) by rw [hF]; exact evO (by decide)).trans e55_9
    have e57_10 : F10.eval (.tmp 57) = .bool true := by rw [hF]; exact evS (by rw [z9]; decide)
    have HF10 := Lib.hid hF
    clear hF e6_9 e55_9 e56_9
    refine tkT (i := 10) (oi := _) (v := .bool true) rfl (by kernel_rfl) (by kernel_rfl) (by kernel_rfl) (fun _ _ _ h => h) HS.out (by rw [wantedG (d := 55) rfl rfl e55_10 (by rw [z10]; decide)]; rfl) (fun w _ => mvT rfl e57_10 w) ?_
    intro F11 hF
    replace hF : F11 = F10.put (some 58) (.bool true) := hF
    have z11 : F11.tmps.size = 70 := by rw [hF]; simpa [Act.put] using z10
    have e6_11 := (show F11.eval (.tmp 6) = F10.eval (.tmp 6) by rw [hF]; exact evO (by decide)).trans e6_10
    have e55_11 := (show F11.eval (.tmp 55) = F10.eval (.tmp 55) by rw [hF]; exact evO (by decide)).trans e55_10
    have e58_11 : F11.eval (.tmp 58) = .bool true := by rw [hF]; exact evS (by rw [z10]; decide)
    have HF11 := Lib.hid hF
    clear hF e6_10 e55_10 e57_10
    refine tkT (i := 11) (oi := _) (v := .int .u64 9221120237041090560) rfl (by kernel_rfl) (by kernel_rfl) (by kernel_rfl) (fun _ _ _ h => h) HS.out (by rw [wantedG (d := 58) rfl rfl e58_11 (by rw [z11]; decide)]; rfl) (fun w _ => mvT rfl e6_11 w) ?_
    intro F12 hF
    replace hF : F12 = F11.put (some 59) (.int .u64 9221120237041090560) := hF
    have z12 : F12.tmps.size = 70 := by rw [hF]; simpa [Act.put] using z11
    have e55_12 := (show F12.eval (.tmp 55) = F11.eval (.tmp 55) by rw [hF]; exact evO (by decide)).trans e55_11
    have e58_12 := (show F12.eval (.tmp 58) = F11.eval (.tmp 58) by rw [hF]; exact evO (by decide)).trans e58_11
    have e59_12 : F12.eval (.tmp 59) = .int .u64 9221120237041090560 := by rw [hF]; exact evS (by rw [z11]; decide)
    have HF12 := Lib.hid hF
    clear hF e6_11 e55_11 e58_11
    refine tkT (i := 12) (oi := _) (v := .bool true) rfl (by kernel_rfl) (by kernel_rfl) (by kernel_rfl) (fun _ _ _ h => h) HS.out (by rw [wantedG (d := 58) rfl rfl e58_12 (by rw [z12]; decide)]; rfl) (fun w hs => boT rfl e59_12 rfl (by go_simp) (by go_simp)) ?_
    intro F13 hF
    replace hF : F13 = F12.put (some 60) (.bool true) := hF
    have z13 : F13.tmps.size = 70 := by rw [hF]; simpa [Act.put] using z12
    have e55_13 := (show F13.eval (.tmp 55) = F12.eval (.tmp 55) by rw [hF]; exact evO (by decide)).trans e55_12
    have e58_13 := (show F13.eval (.tmp 58) = F12.eval (.tmp 58) by rw [hF]; exact evO (by decide)).trans e58_12
    have e60_13 : F13.eval (.tmp 60) = .bool true := by rw [hF]; exact evS (by rw [z12]; decide)
    have HF13 := Lib.hid hF
    clear hF e55_12 e58_12 e59_12
    refine tkT (i := 13) (oi := _) (v := .bool true) rfl (by kernel_rfl) (by kernel_rfl) (by kernel_rfl) (fun _ _ _ h => h) HS.out (by rw [wantedG (d := 55) rfl rfl e55_13 (by rw [z13]; decide)]; rfl) (fun w hs => pkT (vy := .bool false) rfl e58_13 e60_13 rfl w) ?_
    intro F14 hF
    replace hF : F14 = F13.put (some 61) (.bool true) := hF
    have z14 : F14.tmps.size = 70 := by rw [hF]; simpa [Act.put] using z13
    have e55_14 := (show F14.eval (.tmp 55) = F13.eval (.tmp 55) by rw [hF]; exact evO (by decide)).trans e55_13
    have e61_14 : F14.eval (.tmp 61) = .bool true := by rw [hF]; exact evS (by rw [z13]; decide)
    have HF14 := Lib.hid hF
    clear hF e55_13 e58_13 e60_13
    refine tkT (i := 14) (oi := _) (v := .bool true) rfl (by kernel_rfl) (by kernel_rfl) (by kernel_rfl) (fun _ _ _ h => h) HS.out (wantedT rfl) (fun w hs => pkT (vx := .bool true) rfl e55_14 rfl e61_14 w) ?_
    intro F15 hF
    replace hF : F15 = F14.put (some 62) (.bool true) := hF
    have z15 : F15.tmps.size = 70 := by rw [hF]; simpa [Act.put] using z14
    have e62_15 : F15.eval (.tmp 62) = .bool true := by rw [hF]; exact evS (by rw [z14]; decide)
    have HF15 := Lib.hid hF
    clear hF e55_14 e61_14
    refine tkT (i := 15) (oi := _) (v := .bool true) rfl (by kernel_rfl) (by kernel_rfl) (by kernel_rfl) (fun _ _ _ h => h) HS.out (wantedT rfl) (fun w _ => mvT rfl e62_15 w) ?_
    intro F16 hF
    replace hF : F16 = F15.put (some 63) (.bool true) := hF
    have z16 : F16.tmps.size = 70 := by rw [hF]; simpa [Act.put] using z15
    have e63_16 : F16.eval (.tmp 63) = .bool true := by rw [hF]; exact evS (by rw [z15]; decide)
    have HF16 := Lib.hid hF
    clear hF e62_15
    refine skT (i := 16) (oi := _) rfl (by kernel_rfl) (by kernel_rfl) (by kernel_rfl) (fun _ _ _ h => h) HS.out (by rw [wantedG (d := 63) rfl rfl e63_16 (by rw [z16]; decide)]; rfl) ?_
    intro F17 hF
    replace hF : F17 = F16.put (some 64) (undef) := hF
    have z17 : F17.tmps.size = 70 := by rw [hF]; simpa [Act.put] using z16
    have e63_17 := (show F17.eval (.tmp 63) = F16.eval (.tmp 63) by rw [hF]; exact evO (by decide)).trans e63_16
    have HF17 := Lib.hid hF
    clear hF e63_16
    refine skT (i := 17) (oi := _) rfl (by kernel_rfl) (by kernel_rfl) (by kernel_rfl) (fun _ _ _ h => h) HS.out (by rw [wantedG (d := 63) rfl rfl e63_17 (by rw [z17]; decide)]; rfl) ?_
    intro F18 hF
    replace hF : F18 = F17.put (some 65) (undef) := hF
    have z18 : F18.tmps.size = 70 := by rw [hF]; simpa [Act.put] using z17
    have e63_18 := (show F18.eval (.tmp 63) = F17.eval (.tmp 63) by rw [hF]; exact evO (by decide)).trans e63_17
    have HF18 := Lib.hid hF
    clear hF e63_17
    refine skT (i := 18) (oi := _) rfl (by kernel_rfl) (by kernel_rfl) (by kernel_rfl) (fun _ _ _ h => h) HS.out (by rw [wantedG (d := 63) rfl rfl e63_18 (by rw [z18]; decide)]; rfl) ?_
    intro F19 hF
    replace hF : F19 = F18.put (some 66) (undef) := hF
    have z19 : F19.tmps.size = 70 := by rw [hF]; simpa [Act.put] using z18
    have e63_19 := (show F19.eval (.tmp 63) = F18.eval (.tmp 63) by rw [hF]; exact evO (by decide)).trans e63_18
    have HF19 := Lib.hid hF
    clear hF e63_18
    refine skT (i := 19) (oi := _) rfl (by kernel_rfl) (by kernel_rfl) (by kernel_rfl) (fun _ _ _ h => h) HS.out (by rw [wantedG (d := 63) rfl rfl e63_19 (by rw [z19]; decide)]; rfl) ?_
    intro F20 hF
    replace hF : F20 = F19.put (some 67) (undef) := hF
    have z20 : F20.tmps.size = 70 := by rw [hF]; simpa [Act.put] using z19
    have e63_20 := (show F20.eval (.tmp 63) = F19.eval (.tmp 63) by rw [hF]; exact evO (by decide)).trans e63_19
    have HF20 := Lib.hid hF
    clear hF e63_19
    refine skT (i := 20) (oi := _) rfl (by kernel_rfl) (by kernel_rfl) (by kernel_rfl) (fun _ _ _ h => h) HS.out (by rw [wantedG (d := 63) rfl rfl e63_20 (by rw [z20]; decide)]; rfl) ?_
    intro F21 hF
    replace hF : F21 = F20.put (some 68) (undef) := hF
    have z21 : F21.tmps.size = 70 := by rw [hF]; simpa [Act.put] using z20
    have e63_21 := (show F21.eval (.tmp 63) = F20.eval (.tmp 63) by rw [hF]; exact evO (by decide)).trans e63_20
    have e68_21 : F21.eval (.tmp 68) = undef := by rw [hF]; exact evS (by rw [z20]; decide)
    have HF21 := Lib.hid hF
    clear hF e63_20
    refine tkT (i := 21) (oi := _) (v := .bool true) rfl (by kernel_rfl) (by kernel_rfl) (by kernel_rfl) (fun _ _ _ h => h) HS.out (wantedT rfl) (fun w hs => pkT (vx := .bool true) rfl e63_21 rfl rfl w) ?_
    intro F22 hF
    replace hF : F22 = F21.put (some 69) (.bool true) := hF
    have z22 : F22.tmps.size = 70 := by rw [hF]; simpa [Act.put] using z21
    have e69_22 : F22.eval (.tmp 69) = .bool true := by rw [hF]; exact evS (by rw [z21]; decide)
    have HF22 := Lib.hid hF
    clear hF e63_21 e68_21
    refine tkT (i := 22) (oi := _) (v := .bool true) rfl (by kernel_rfl) (by kernel_rfl) (by kernel_rfl) (fun _ _ _ h => h) HS.out (wantedT rfl) (fun w _ => asT rfl e69_22 w) ?_
    intro F23 hF
    replace hF : F23 = F22.put (some 4) (.bool true) := hF
    have z23 : F23.tmps.size = 70 := by rw [hF]; simpa [Act.put] using z22
    have HF23 := Lib.hid hF
    clear hF e69_22
    refine wpAnyH_done (by kernel_rfl) ?_ _
    rw [HF23.out, HF22.out, HF21.out, HF20.out, HF19.out, HF18.out, HF17.out, HF16.out, HF15.out, HF14.out, HF13.out, HF12.out, HF11.out, HF10.out, HF9.out, HF8.out, HF7.out, HF6.out, HF5.out, HF4.out, HF3.out, HF2.out, HF1.out, HA.out]
    simp only [Act.put, List.setIfInBounds_toArray, List.set_cons_succ, List.set_cons_zero]
    clear HF23 HF22 HF21 HF20 HF19 HF18 HF17 HF16 HF15 HF14 HF13 HF12 HF11 HF10 HF9 HF8 HF7 HF6 HF5 HF4 HF3 HF2 HF1 HA z23 z22 z21 z20 z19 z18 z17 z16 z15 z14 z13 z12 z11 z10 z9 z8 z7 z6 z5 z4 z3 z2 z1 z0 
    go_wp2
    go_ret
    exact ⟨rfl, QB.out.trans ((Qt.refl u0).drew.trans q9)⟩
  · have hs : sm = false := by rw [HSM0.out, hx, hy]; rfl
    subst hs
    subst hx hy
    have HF := Lib.hid hF
    clear hF hsm
    refine wp_region_held (S := (fun u => u.rangeAt g7 0 [.slice A7 1 c7] ∧ u.rangeAt g8 0 [.slice A8 1 c8])) (by kernel_rfl) ?_
    change wpAnyH _ _ _ _ _ _ _ _ (World.drew _)
    refine genT fun F0 hA => ?_
    have z0 : F0.tmps.size = 70 := by rw [hA]; rfl
    have e5_0 : F0.eval (.tmp 5) = .int .u64 0 := by rw [hA]; rfl
    have e6_0 : F0.eval (.tmp 6) = .int .u64 9223372036854775808 := by rw [hA]; rfl
    have e7_0 : F0.eval (.tmp 7) = .pointer (some ⟨g7, 0, none⟩) := by rw [hA]; rfl
    have e8_0 : F0.eval (.tmp 8) = .pointer (some ⟨g8, 0, none⟩) := by rw [hA]; rfl
    have HA := Lib.hid hA
    clear hA
    have HS := Lib.hid (show World.rangeAt u0.drew _ _ _ ∧ World.rangeAt u0.drew _ _ _ from ⟨(show Blk u0.drew g7 _ _ from H7.out).range 0 [.slice A7 1 c7] rfl, (show Blk u0.drew g8 _ _ from H8.out).range 0 [.slice A8 1 c8] rfl⟩)
    refine tkT (i := 0) (oi := _) (v := .int .u64 0) rfl (by kernel_rfl) (by kernel_rfl) (by kernel_rfl) (fun _ _ _ h => h) HS.out (wantedT rfl) (fun w _ => mvT rfl e5_0 w) ?_
    intro F1 hF
    replace hF : F1 = F0.put (some 48) (.int .u64 0) := hF
    have z1 : F1.tmps.size = 70 := by rw [hF]; simpa [Act.put] using z0
    have e5_1 := (show F1.eval (.tmp 5) = F0.eval (.tmp 5) by rw [hF]; exact evO (by decide)).trans e5_0
    have e6_1 := (show F1.eval (.tmp 6) = F0.eval (.tmp 6) by rw [hF]; exact evO (by decide)).trans e6_0
    have e7_1 := (show F1.eval (.tmp 7) = F0.eval (.tmp 7) by rw [hF]; exact evO (by decide)).trans e7_0
    have e8_1 := (show F1.eval (.tmp 8) = F0.eval (.tmp 8) by rw [hF]; exact evO (by decide)).trans e8_0
    have e48_1 : F1.eval (.tmp 48) = .int .u64 0 := by rw [hF]; exact evS (by rw [z0]; decide)
    have HF1 := Lib.hid hF
    clear hF e5_0 e6_0 e7_0 e8_0
    refine tkT (i := 1) (oi := _) (v := .int .u64 9223372036854775808) rfl (by kernel_rfl) (by kernel_rfl) (by kernel_rfl) (fun _ _ _ h => h) HS.out (wantedT rfl) (fun w _ => mvT rfl e6_1 w) ?_
    intro F2 hF
    replace hF : F2 = F1.put (some 49) (.int .u64 9223372036854775808) := hF
    have z2 : F2.tmps.size = 70 := by rw [hF]; simpa [Act.put] using z1
    have e5_2 := (show F2.eval (.tmp 5) = F1.eval (.tmp 5) by rw [hF]; exact evO (by decide)).trans e5_1
    have e6_2 := (show F2.eval (.tmp 6) = F1.eval (.tmp 6) by rw [hF]; exact evO (by decide)).trans e6_1
    have e7_2 := (show F2.eval (.tmp 7) = F1.eval (.tmp 7) by rw [hF]; exact evO (by decide)).trans e7_1
    have e8_2 := (show F2.eval (.tmp 8) = F1.eval (.tmp 8) by rw [hF]; exact evO (by decide)).trans e8_1
    have e48_2 := (show F2.eval (.tmp 48) = F1.eval (.tmp 48) by rw [hF]; exact evO (by decide)).trans e48_1
    have e49_2 : F2.eval (.tmp 49) = .int .u64 9223372036854775808 := by rw [hF]; exact evS (by rw [z1]; decide)
    have HF2 := Lib.hid hF
    clear hF e5_1 e6_1 e7_1 e8_1 e48_1
    refine tkT (i := 3) (oi := _) (v := .agg #[.slice A7 1 c7]) rfl (by kernel_rfl) (by kernel_rfl) (by kernel_rfl) (fun _ _ _ h => h) HS.out (wantedT rfl) (fun w hs => lrT rfl e7_2 hs.1 (d := .struct ts) HTS.out rfl (by kernel_rfl)) ?_
    intro F3 hF
    replace hF : F3 = F2.put (some 51) (.agg #[.slice A7 1 c7]) := hF
    have z3 : F3.tmps.size = 70 := by rw [hF]; simpa [Act.put] using z2
    have e5_3 := (show F3.eval (.tmp 5) = F2.eval (.tmp 5) by rw [hF]; exact evO (by decide)).trans e5_2
    have e6_3 := (show F3.eval (.tmp 6) = F2.eval (.tmp 6) by rw [hF]; exact evO (by decide)).trans e6_2
    have e8_3 := (show F3.eval (.tmp 8) = F2.eval (.tmp 8) by rw [hF]; exact evO (by decide)).trans e8_2
    have e48_3 := (show F3.eval (.tmp 48) = F2.eval (.tmp 48) by rw [hF]; exact evO (by decide)).trans e48_2
    have e49_3 := (show F3.eval (.tmp 49) = F2.eval (.tmp 49) by rw [hF]; exact evO (by decide)).trans e49_2
    have e51_3 : F3.eval (.tmp 51) = .agg #[.slice A7 1 c7] := by rw [hF]; exact evS (by rw [z2]; decide)
    have HF3 := Lib.hid hF
    clear hF e5_2 e6_2 e7_2 e8_2 e48_2 e49_2
    refine tkT (i := 4) (oi := _) (v := .agg #[.slice A8 1 c8]) rfl (by kernel_rfl) (by kernel_rfl) (by kernel_rfl) (fun _ _ _ h => h) HS.out (wantedT rfl) (fun w hs => lrT rfl e8_3 hs.2 (d := .struct ts) HTS.out rfl (by kernel_rfl)) ?_
    intro F4 hF
    replace hF : F4 = F3.put (some 52) (.agg #[.slice A8 1 c8]) := hF
    have z4 : F4.tmps.size = 70 := by rw [hF]; simpa [Act.put] using z3
    have e5_4 := (show F4.eval (.tmp 5) = F3.eval (.tmp 5) by rw [hF]; exact evO (by decide)).trans e5_3
    have e6_4 := (show F4.eval (.tmp 6) = F3.eval (.tmp 6) by rw [hF]; exact evO (by decide)).trans e6_3
    have e48_4 := (show F4.eval (.tmp 48) = F3.eval (.tmp 48) by rw [hF]; exact evO (by decide)).trans e48_3
    have e49_4 := (show F4.eval (.tmp 49) = F3.eval (.tmp 49) by rw [hF]; exact evO (by decide)).trans e49_3
    have e51_4 := (show F4.eval (.tmp 51) = F3.eval (.tmp 51) by rw [hF]; exact evO (by decide)).trans e51_3
    have e52_4 : F4.eval (.tmp 52) = .agg #[.slice A8 1 c8] := by rw [hF]; exact evS (by rw [z3]; decide)
    have HF4 := Lib.hid hF
    clear hF e5_3 e6_3 e8_3 e48_3 e49_3 e51_3
    refine aloneT (i := 2) (oi := _) rfl (by kernel_rfl) (wantedT rfl) ?_
    refine wpCall (clT (f := 24) (args := #[.int .u64 0, .int .u64 9223372036854775808]) rfl (by simp only [List.map_toArray, List.map_cons, List.map_nil, e48_4, e49_4] <;> rfl) (fun args w => by kernel_rfl)) (fun v w' => v = .bool true ∧ w' = u0.drew) ((Fl.Same_any _ _ _).mono (by rintro e w' ⟨rfl, rfl⟩; exact ⟨_, rfl, by first | rfl | rw [HF.out], rfl⟩)) ?_
    rintro v w' ⟨rfl, rfl⟩
    refine ⟨HS.out, genT fun F5 hF => ?_⟩
    have HS := Lib.hid (HS.out)
    replace hF : F5 = F4.put (some 50) (.bool true) := hF
    have z5 : F5.tmps.size = 70 := by rw [hF]; simpa [Act.put] using z4
    have e5_5 := (show F5.eval (.tmp 5) = F4.eval (.tmp 5) by rw [hF]; exact evO (by decide)).trans e5_4
    have e6_5 := (show F5.eval (.tmp 6) = F4.eval (.tmp 6) by rw [hF]; exact evO (by decide)).trans e6_4
    have e50_5 : F5.eval (.tmp 50) = .bool true := by rw [hF]; exact evS (by rw [z4]; decide)
    have e51_5 := (show F5.eval (.tmp 51) = F4.eval (.tmp 51) by rw [hF]; exact evO (by decide)).trans e51_4
    have e52_5 := (show F5.eval (.tmp 52) = F4.eval (.tmp 52) by rw [hF]; exact evO (by decide)).trans e52_4
    have HF5 := Lib.hid hF
    clear hF e5_4 e6_4 e48_4 e49_4 e51_4 e52_4
    refine aloneT (i := 5) (oi := _) rfl (by kernel_rfl) (wantedT rfl) ?_
    refine wpCall (clT (f := 18) (args := #[.agg #[.slice A7 1 c7], .agg #[.slice A8 1 c8]]) rfl (by simp only [List.map_toArray, List.map_cons, List.map_nil, e51_5, e52_5] <;> rfl) (fun args w => by kernel_rfl)) (fun v w' => v = .bool false ∧ Qt u0.drew w') ((HSM.out u0.drew (Qt.refl u0).drew).mono (by rintro e w' ⟨rfl, q⟩; exact ⟨_, rfl, rfl, q⟩)) ?_
    rintro v w9 ⟨rfl, q9⟩
    refine ⟨And.intro (rangeQt HS.out.1 q9) (rangeQt HS.out.2 q9), genT fun F6 hF => ?_⟩
    have HS := Lib.hid (And.intro (rangeQt HS.out.1 q9) (rangeQt HS.out.2 q9))
    replace hF : F6 = F5.put (some 53) (.bool false) := hF
    have z6 : F6.tmps.size = 70 := by rw [hF]; simpa [Act.put] using z5
    have e5_6 := (show F6.eval (.tmp 5) = F5.eval (.tmp 5) by rw [hF]; exact evO (by decide)).trans e5_5
    have e6_6 := (show F6.eval (.tmp 6) = F5.eval (.tmp 6) by rw [hF]; exact evO (by decide)).trans e6_5
    have e50_6 := (show F6.eval (.tmp 50) = F5.eval (.tmp 50) by rw [hF]; exact evO (by decide)).trans e50_5
    have e53_6 : F6.eval (.tmp 53) = .bool false := by rw [hF]; exact evS (by rw [z5]; decide)
    have HF6 := Lib.hid hF
    clear hF e5_5 e6_5 e50_5 e51_5 e52_5
    refine tkT (i := 6) (oi := _) (v := .bool false) rfl (by kernel_rfl) (by kernel_rfl) (by kernel_rfl) (fun _ _ _ h => h) HS.out (wantedT rfl) (fun w hs => boT rfl e50_6 e53_6 (by go_simp) (by go_simp)) ?_
    intro F7 hF
    replace hF : F7 = F6.put (some 54) (.bool false) := hF
    have z7 : F7.tmps.size = 70 := by rw [hF]; simpa [Act.put] using z6
    have e5_7 := (show F7.eval (.tmp 5) = F6.eval (.tmp 5) by rw [hF]; exact evO (by decide)).trans e5_6
    have e6_7 := (show F7.eval (.tmp 6) = F6.eval (.tmp 6) by rw [hF]; exact evO (by decide)).trans e6_6
    have e54_7 : F7.eval (.tmp 54) = .bool false := by rw [hF]; exact evS (by rw [z6]; decide)
    have HF7 := Lib.hid hF
    clear hF e5_6 e6_6 e50_6 e53_6
    refine tkT (i := 7) (oi := _) (v := .bool false) rfl (by kernel_rfl) (by kernel_rfl) (by kernel_rfl) (fun _ _ _ h => h) HS.out (wantedT rfl) (fun w _ => mvT rfl e54_7 w) ?_
    intro F8 hF
    replace hF : F8 = F7.put (some 55) (.bool false) := hF
    have z8 : F8.tmps.size = 70 := by rw [hF]; simpa [Act.put] using z7
    have e5_8 := (show F8.eval (.tmp 5) = F7.eval (.tmp 5) by rw [hF]; exact evO (by decide)).trans e5_7
    have e6_8 := (show F8.eval (.tmp 6) = F7.eval (.tmp 6) by rw [hF]; exact evO (by decide)).trans e6_7
    have e55_8 : F8.eval (.tmp 55) = .bool false := by rw [hF]; exact evS (by rw [z7]; decide)
    have HF8 := Lib.hid hF
    clear hF e5_7 e6_7 e54_7
    refine tkT (i := 8) (oi := _) (v := .int .u64 0) rfl (by kernel_rfl) (by kernel_rfl) (by kernel_rfl) (fun _ _ _ h => h) HS.out (by rw [wantedG (d := 55) rfl rfl e55_8 (by rw [z8]; decide)]; rfl) (fun w _ => mvT rfl e5_8 w) ?_
    intro F9 hF
    replace hF : F9 = F8.put (some 56) (.int .u64 0) := hF
    have z9 : F9.tmps.size = 70 := by rw [hF]; simpa [Act.put] using z8
    have e5_9 := (show F9.eval (.tmp 5) = F8.eval (.tmp 5) by rw [hF]; exact evO (by decide)).trans e5_8
    have e6_9 := (show F9.eval (.tmp 6) = F8.eval (.tmp 6) by rw [hF]; exact evO (by decide)).trans e6_8
    have e55_9 := (show F9.eval (.tmp 55) = F8.eval (.tmp 55) by rw [hF]; exact evO (by decide)).trans e55_8
    have e56_9 : F9.eval (.tmp 56) = .int .u64 0 := by rw [hF]; exact evS (by rw [z8]; decide)
    have HF9 := Lib.hid hF
    clear hF e5_8 e6_8 e55_8
    refine tkT (i := 9) (oi := _) (v := .bool false) rfl (by kernel_rfl) (by kernel_rfl) (by kernel_rfl) (fun _ _ _ h => h) HS.out (by rw [wantedG (d := 55) rfl rfl e55_9 (by rw [z9]; decide)]; rfl) (fun w hs => boT rfl e56_9 rfl (by go_simp) (by go_simp)) ?_
    intro F10 hF
    replace hF : F10 = F9.put (some 57) (.bool false) := hF
    have z10 : F10.tmps.size = 70 := by rw [hF]; simpa [Act.put] using z9
    have e5_10 := (show F10.eval (.tmp 5) = F9.eval (.tmp 5) by rw [hF]; exact evO (by decide)).trans e5_9
    have e6_10 := (show F10.eval (.tmp 6) = F9.eval (.tmp 6) by rw [hF]; exact evO (by decide)).trans e6_9
    have e55_10 := (show F10.eval (.tmp 55) = F9.eval (.tmp 55) by rw [hF]; exact evO (by decide)).trans e55_9
    have e57_10 : F10.eval (.tmp 57) = .bool false := by rw [hF]; exact evS (by rw [z9]; decide)
    have HF10 := Lib.hid hF
    clear hF e5_9 e6_9 e55_9 e56_9
    refine tkT (i := 10) (oi := _) (v := .bool false) rfl (by kernel_rfl) (by kernel_rfl) (by kernel_rfl) (fun _ _ _ h => h) HS.out (by rw [wantedG (d := 55) rfl rfl e55_10 (by rw [z10]; decide)]; rfl) (fun w _ => mvT rfl e57_10 w) ?_
    intro F11 hF
    replace hF : F11 = F10.put (some 58) (.bool false) := hF
    have z11 : F11.tmps.size = 70 := by rw [hF]; simpa [Act.put] using z10
    have e5_11 := (show F11.eval (.tmp 5) = F10.eval (.tmp 5) by rw [hF]; exact evO (by decide)).trans e5_10
    have e6_11 := (show F11.eval (.tmp 6) = F10.eval (.tmp 6) by rw [hF]; exact evO (by decide)).trans e6_10
    have e55_11 := (show F11.eval (.tmp 55) = F10.eval (.tmp 55) by rw [hF]; exact evO (by decide)).trans e55_10
    have e58_11 : F11.eval (.tmp 58) = .bool false := by rw [hF]; exact evS (by rw [z10]; decide)
    have HF11 := Lib.hid hF
    clear hF e5_10 e6_10 e55_10 e57_10
    refine skT (i := 11) (oi := _) rfl (by kernel_rfl) (by kernel_rfl) (by kernel_rfl) (fun _ _ _ h => h) HS.out (by rw [wantedG (d := 58) rfl rfl e58_11 (by rw [z11]; decide)]; rfl) ?_
    intro F12 hF
    replace hF : F12 = F11.put (some 59) (undef) := hF
    have z12 : F12.tmps.size = 70 := by rw [hF]; simpa [Act.put] using z11
    have e5_12 := (show F12.eval (.tmp 5) = F11.eval (.tmp 5) by rw [hF]; exact evO (by decide)).trans e5_11
    have e6_12 := (show F12.eval (.tmp 6) = F11.eval (.tmp 6) by rw [hF]; exact evO (by decide)).trans e6_11
    have e55_12 := (show F12.eval (.tmp 55) = F11.eval (.tmp 55) by rw [hF]; exact evO (by decide)).trans e55_11
    have e58_12 := (show F12.eval (.tmp 58) = F11.eval (.tmp 58) by rw [hF]; exact evO (by decide)).trans e58_11
    have HF12 := Lib.hid hF
    clear hF e5_11 e6_11 e55_11 e58_11
    refine skT (i := 12) (oi := _) rfl (by kernel_rfl) (by kernel_rfl) (by kernel_rfl) (fun _ _ _ h => h) HS.out (by rw [wantedG (d := 58) rfl rfl e58_12 (by rw [z12]; decide)]; rfl) ?_
    intro F13 hF
    replace hF : F13 = F12.put (some 60) (undef) := hF
    have z13 : F13.tmps.size = 70 := by rw [hF]; simpa [Act.put] using z12
    have e5_13 := (show F13.eval (.tmp 5) = F12.eval (.tmp 5) by rw [hF]; exact evO (by decide)).trans e5_12
    have e6_13 := (show F13.eval (.tmp 6) = F12.eval (.tmp 6) by rw [hF]; exact evO (by decide)).trans e6_12
    have e55_13 := (show F13.eval (.tmp 55) = F12.eval (.tmp 55) by rw [hF]; exact evO (by decide)).trans e55_12
    have e58_13 := (show F13.eval (.tmp 58) = F12.eval (.tmp 58) by rw [hF]; exact evO (by decide)).trans e58_12
    have e60_13 : F13.eval (.tmp 60) = undef := by rw [hF]; exact evS (by rw [z12]; decide)
    have HF13 := Lib.hid hF
    clear hF e5_12 e6_12 e55_12 e58_12
    refine tkT (i := 13) (oi := _) (v := .bool false) rfl (by kernel_rfl) (by kernel_rfl) (by kernel_rfl) (fun _ _ _ h => h) HS.out (by rw [wantedG (d := 55) rfl rfl e55_13 (by rw [z13]; decide)]; rfl) (fun w hs => pkT (vy := .bool false) rfl e58_13 rfl rfl w) ?_
    intro F14 hF
    replace hF : F14 = F13.put (some 61) (.bool false) := hF
    have z14 : F14.tmps.size = 70 := by rw [hF]; simpa [Act.put] using z13
    have e5_14 := (show F14.eval (.tmp 5) = F13.eval (.tmp 5) by rw [hF]; exact evO (by decide)).trans e5_13
    have e6_14 := (show F14.eval (.tmp 6) = F13.eval (.tmp 6) by rw [hF]; exact evO (by decide)).trans e6_13
    have e55_14 := (show F14.eval (.tmp 55) = F13.eval (.tmp 55) by rw [hF]; exact evO (by decide)).trans e55_13
    have e61_14 : F14.eval (.tmp 61) = .bool false := by rw [hF]; exact evS (by rw [z13]; decide)
    have HF14 := Lib.hid hF
    clear hF e5_13 e6_13 e55_13 e58_13 e60_13
    refine tkT (i := 14) (oi := _) (v := .bool false) rfl (by kernel_rfl) (by kernel_rfl) (by kernel_rfl) (fun _ _ _ h => h) HS.out (wantedT rfl) (fun w hs => pkT (vx := .bool true) rfl e55_14 rfl e61_14 w) ?_
    intro F15 hF
    replace hF : F15 = F14.put (some 62) (.bool false) := hF
    have z15 : F15.tmps.size = 70 := by rw [hF]; simpa [Act.put] using z14
    have e5_15 := (show F15.eval (.tmp 5) = F14.eval (.tmp 5) by rw [hF]; exact evO (by decide)).trans e5_14
    have e6_15 := (show F15.eval (.tmp 6) = F14.eval (.tmp 6) by rw [hF]; exact evO (by decide)).trans e6_14
    have e62_15 : F15.eval (.tmp 62) = .bool false := by rw [hF]; exact evS (by rw [z14]; decide)
    have HF15 := Lib.hid hF
    clear hF e5_14 e6_14 e55_14 e61_14
    refine tkT (i := 15) (oi := _) (v := .bool false) rfl (by kernel_rfl) (by kernel_rfl) (by kernel_rfl) (fun _ _ _ h => h) HS.out (wantedT rfl) (fun w _ => mvT rfl e62_15 w) ?_
    intro F16 hF
    replace hF : F16 = F15.put (some 63) (.bool false) := hF
    have z16 : F16.tmps.size = 70 := by rw [hF]; simpa [Act.put] using z15
    have e5_16 := (show F16.eval (.tmp 5) = F15.eval (.tmp 5) by rw [hF]; exact evO (by decide)).trans e5_15
    have e6_16 := (show F16.eval (.tmp 6) = F15.eval (.tmp 6) by rw [hF]; exact evO (by decide)).trans e6_15
    have e63_16 : F16.eval (.tmp 63) = .bool false := by rw [hF]; exact evS (by rw [z15]; decide)
    have HF16 := Lib.hid hF
    clear hF e5_15 e6_15 e62_15
    refine tkT (i := 16) (oi := _) (v := .int .u64 0) rfl (by kernel_rfl) (by kernel_rfl) (by kernel_rfl) (fun _ _ _ h => h) HS.out (by rw [wantedG (d := 63) rfl rfl e63_16 (by rw [z16]; decide)]; rfl) (fun w _ => mvT rfl e5_16 w) ?_
    intro F17 hF
    replace hF : F17 = F16.put (some 64) (.int .u64 0) := hF
    have z17 : F17.tmps.size = 70 := by rw [hF]; simpa [Act.put] using z16
    have e6_17 := (show F17.eval (.tmp 6) = F16.eval (.tmp 6) by rw [hF]; exact evO (by decide)).trans e6_16
    have e63_17 := (show F17.eval (.tmp 63) = F16.eval (.tmp 63) by rw [hF]; exact evO (by decide)).trans e63_16
    have e64_17 : F17.eval (.tmp 64) = .int .u64 0 := by rw [hF]; exact evS (by rw [z16]; decide)
    have HF17 := Lib.hid hF
    clear hF e5_16 e6_16 e63_16
    refine tkT (i := 17) (oi := _) (v := .int .u64 9223372036854775808) rfl (by kernel_rfl) (by kernel_rfl) (by kernel_rfl) (fun _ _ _ h => h) HS.out (by rw [wantedG (d := 63) rfl rfl e63_17 (by rw [z17]; decide)]; rfl) (fun w _ => mvT rfl e6_17 w) ?_
    intro F18 hF
    replace hF : F18 = F17.put (some 65) (.int .u64 9223372036854775808) := hF
    have z18 : F18.tmps.size = 70 := by rw [hF]; simpa [Act.put] using z17
    have e63_18 := (show F18.eval (.tmp 63) = F17.eval (.tmp 63) by rw [hF]; exact evO (by decide)).trans e63_17
    have e64_18 := (show F18.eval (.tmp 64) = F17.eval (.tmp 64) by rw [hF]; exact evO (by decide)).trans e64_17
    have e65_18 : F18.eval (.tmp 65) = .int .u64 9223372036854775808 := by rw [hF]; exact evS (by rw [z17]; decide)
    have HF18 := Lib.hid hF
    clear hF e6_17 e63_17 e64_17
    refine tkT (i := 18) (oi := _) (v := .int .u64 9223372036854775808) rfl (by kernel_rfl) (by kernel_rfl) (by kernel_rfl) (fun _ _ _ h => h) HS.out (by rw [wantedG (d := 63) rfl rfl e63_18 (by rw [z18]; decide)]; rfl) (fun w hs => boT rfl e64_18 e65_18 (by go_simp) (by kernel_rfl)) ?_
    intro F19 hF
    replace hF : F19 = F18.put (some 66) (.int .u64 9223372036854775808) := hF
    have z19 : F19.tmps.size = 70 := by rw [hF]; simpa [Act.put] using z18
    have e63_19 := (show F19.eval (.tmp 63) = F18.eval (.tmp 63) by rw [hF]; exact evO (by decide)).trans e63_18
    have e66_19 : F19.eval (.tmp 66) = .int .u64 9223372036854775808 := by rw [hF]; exact evS (by rw [z18]; decide)
    have HF19 := Lib.hid hF
    clear hF e63_18 e64_18 e65_18
    refine tkT (i := 19) (oi := _) (v := .int .u64 0) rfl (by kernel_rfl) (by kernel_rfl) (by kernel_rfl) (fun _ _ _ h => h) HS.out (by rw [wantedG (d := 63) rfl rfl e63_19 (by rw [z19]; decide)]; rfl) (fun w hs => boT rfl e66_19 rfl (by go_simp) (by kernel_rfl)) ?_
    intro F20 hF
    replace hF : F20 = F19.put (some 67) (.int .u64 0) := hF
    have z20 : F20.tmps.size = 70 := by rw [hF]; simpa [Act.put] using z19
    have e63_20 := (show F20.eval (.tmp 63) = F19.eval (.tmp 63) by rw [hF]; exact evO (by decide)).trans e63_19
    have e67_20 : F20.eval (.tmp 67) = .int .u64 0 := by rw [hF]; exact evS (by rw [z19]; decide)
    have HF20 := Lib.hid hF
    clear hF e63_19 e66_19
    refine tkT (i := 20) (oi := _) (v := .bool true) rfl (by kernel_rfl) (by kernel_rfl) (by kernel_rfl) (fun _ _ _ h => h) HS.out (by rw [wantedG (d := 63) rfl rfl e63_20 (by rw [z20]; decide)]; rfl) (fun w hs => boT rfl e67_20 rfl (by go_simp) (by go_simp)) ?_
    intro F21 hF
    replace hF : F21 = F20.put (some 68) (.bool true) := hF
    have z21 : F21.tmps.size = 70 := by rw [hF]; simpa [Act.put] using z20
    have e63_21 := (show F21.eval (.tmp 63) = F20.eval (.tmp 63) by rw [hF]; exact evO (by decide)).trans e63_20
    have e68_21 : F21.eval (.tmp 68) = .bool true := by rw [hF]; exact evS (by rw [z20]; decide)
    have HF21 := Lib.hid hF
    clear hF e63_20 e67_20
    refine tkT (i := 21) (oi := _) (v := .bool true) rfl (by kernel_rfl) (by kernel_rfl) (by kernel_rfl) (fun _ _ _ h => h) HS.out (wantedT rfl) (fun w hs => pkT (vx := .bool true) rfl e63_21 rfl e68_21 w) ?_
    intro F22 hF
    replace hF : F22 = F21.put (some 69) (.bool true) := hF
    have z22 : F22.tmps.size = 70 := by rw [hF]; simpa [Act.put] using z21
    have e69_22 : F22.eval (.tmp 69) = .bool true := by rw [hF]; exact evS (by rw [z21]; decide)
    have HF22 := Lib.hid hF
    clear hF e63_21 e68_21
    refine tkT (i := 22) (oi := _) (v := .bool true) rfl (by kernel_rfl) (by kernel_rfl) (by kernel_rfl) (fun _ _ _ h => h) HS.out (wantedT rfl) (fun w _ => asT rfl e69_22 w) ?_
    intro F23 hF
    replace hF : F23 = F22.put (some 4) (.bool true) := hF
    have z23 : F23.tmps.size = 70 := by rw [hF]; simpa [Act.put] using z22
    have HF23 := Lib.hid hF
    clear hF e69_22
    refine wpAnyH_done (by kernel_rfl) ?_ _
    rw [HF23.out, HF22.out, HF21.out, HF20.out, HF19.out, HF18.out, HF17.out, HF16.out, HF15.out, HF14.out, HF13.out, HF12.out, HF11.out, HF10.out, HF9.out, HF8.out, HF7.out, HF6.out, HF5.out, HF4.out, HF3.out, HF2.out, HF1.out, HA.out]
    simp only [Act.put, List.setIfInBounds_toArray, List.set_cons_succ, List.set_cons_zero]
    clear HF23 HF22 HF21 HF20 HF19 HF18 HF17 HF16 HF15 HF14 HF13 HF12 HF11 HF10 HF9 HF8 HF7 HF6 HF5 HF4 HF3 HF2 HF1 HA z23 z22 z21 z20 z19 z18 z17 z16 z15 z14 z13 z12 z11 z10 z9 z8 z7 z6 z5 z4 z3 z2 z1 z0 
    go_wp2
    go_ret
    exact ⟨rfl, QB.out.trans ((Qt.refl u0).drew.trans q9)⟩
  · have hs : sm = false := by rw [HSM0.out, hx, hy]; rfl
    subst hs
    subst hx hy
    have HF := Lib.hid hF
    clear hF hsm
    refine wp_region_held (S := (fun u => u.rangeAt g7 0 [.slice A7 1 c7] ∧ u.rangeAt g8 0 [.slice A8 1 c8])) (by kernel_rfl) ?_
    change wpAnyH _ _ _ _ _ _ _ _ (World.drew _)
    refine genT fun F0 hA => ?_
    have z0 : F0.tmps.size = 70 := by rw [hA]; rfl
    have e5_0 : F0.eval (.tmp 5) = .int .u64 9223372036854775808 := by rw [hA]; rfl
    have e6_0 : F0.eval (.tmp 6) = .int .u64 0 := by rw [hA]; rfl
    have e7_0 : F0.eval (.tmp 7) = .pointer (some ⟨g7, 0, none⟩) := by rw [hA]; rfl
    have e8_0 : F0.eval (.tmp 8) = .pointer (some ⟨g8, 0, none⟩) := by rw [hA]; rfl
    have HA := Lib.hid hA
    clear hA
    have HS := Lib.hid (show World.rangeAt u0.drew _ _ _ ∧ World.rangeAt u0.drew _ _ _ from ⟨(show Blk u0.drew g7 _ _ from H7.out).range 0 [.slice A7 1 c7] rfl, (show Blk u0.drew g8 _ _ from H8.out).range 0 [.slice A8 1 c8] rfl⟩)
    refine tkT (i := 0) (oi := _) (v := .int .u64 9223372036854775808) rfl (by kernel_rfl) (by kernel_rfl) (by kernel_rfl) (fun _ _ _ h => h) HS.out (wantedT rfl) (fun w _ => mvT rfl e5_0 w) ?_
    intro F1 hF
    replace hF : F1 = F0.put (some 48) (.int .u64 9223372036854775808) := hF
    have z1 : F1.tmps.size = 70 := by rw [hF]; simpa [Act.put] using z0
    have e5_1 := (show F1.eval (.tmp 5) = F0.eval (.tmp 5) by rw [hF]; exact evO (by decide)).trans e5_0
    have e6_1 := (show F1.eval (.tmp 6) = F0.eval (.tmp 6) by rw [hF]; exact evO (by decide)).trans e6_0
    have e7_1 := (show F1.eval (.tmp 7) = F0.eval (.tmp 7) by rw [hF]; exact evO (by decide)).trans e7_0
    have e8_1 := (show F1.eval (.tmp 8) = F0.eval (.tmp 8) by rw [hF]; exact evO (by decide)).trans e8_0
    have e48_1 : F1.eval (.tmp 48) = .int .u64 9223372036854775808 := by rw [hF]; exact evS (by rw [z0]; decide)
    have HF1 := Lib.hid hF
    clear hF e5_0 e6_0 e7_0 e8_0
    refine tkT (i := 1) (oi := _) (v := .int .u64 0) rfl (by kernel_rfl) (by kernel_rfl) (by kernel_rfl) (fun _ _ _ h => h) HS.out (wantedT rfl) (fun w _ => mvT rfl e6_1 w) ?_
    intro F2 hF
    replace hF : F2 = F1.put (some 49) (.int .u64 0) := hF
    have z2 : F2.tmps.size = 70 := by rw [hF]; simpa [Act.put] using z1
    have e5_2 := (show F2.eval (.tmp 5) = F1.eval (.tmp 5) by rw [hF]; exact evO (by decide)).trans e5_1
    have e6_2 := (show F2.eval (.tmp 6) = F1.eval (.tmp 6) by rw [hF]; exact evO (by decide)).trans e6_1
    have e7_2 := (show F2.eval (.tmp 7) = F1.eval (.tmp 7) by rw [hF]; exact evO (by decide)).trans e7_1
    have e8_2 := (show F2.eval (.tmp 8) = F1.eval (.tmp 8) by rw [hF]; exact evO (by decide)).trans e8_1
    have e48_2 := (show F2.eval (.tmp 48) = F1.eval (.tmp 48) by rw [hF]; exact evO (by decide)).trans e48_1
    have e49_2 : F2.eval (.tmp 49) = .int .u64 0 := by rw [hF]; exact evS (by rw [z1]; decide)
    have HF2 := Lib.hid hF
    clear hF e5_1 e6_1 e7_1 e8_1 e48_1
    refine tkT (i := 3) (oi := _) (v := .agg #[.slice A7 1 c7]) rfl (by kernel_rfl) (by kernel_rfl) (by kernel_rfl) (fun _ _ _ h => h) HS.out (wantedT rfl) (fun w hs => lrT rfl e7_2 hs.1 (d := .struct ts) HTS.out rfl (by kernel_rfl)) ?_
    intro F3 hF
    replace hF : F3 = F2.put (some 51) (.agg #[.slice A7 1 c7]) := hF
    have z3 : F3.tmps.size = 70 := by rw [hF]; simpa [Act.put] using z2
    have e5_3 := (show F3.eval (.tmp 5) = F2.eval (.tmp 5) by rw [hF]; exact evO (by decide)).trans e5_2
    have e6_3 := (show F3.eval (.tmp 6) = F2.eval (.tmp 6) by rw [hF]; exact evO (by decide)).trans e6_2
    have e8_3 := (show F3.eval (.tmp 8) = F2.eval (.tmp 8) by rw [hF]; exact evO (by decide)).trans e8_2
    have e48_3 := (show F3.eval (.tmp 48) = F2.eval (.tmp 48) by rw [hF]; exact evO (by decide)).trans e48_2
    have e49_3 := (show F3.eval (.tmp 49) = F2.eval (.tmp 49) by rw [hF]; exact evO (by decide)).trans e49_2
    have e51_3 : F3.eval (.tmp 51) = .agg #[.slice A7 1 c7] := by rw [hF]; exact evS (by rw [z2]; decide)
    have HF3 := Lib.hid hF
    clear hF e5_2 e6_2 e7_2 e8_2 e48_2 e49_2
    refine tkT (i := 4) (oi := _) (v := .agg #[.slice A8 1 c8]) rfl (by kernel_rfl) (by kernel_rfl) (by kernel_rfl) (fun _ _ _ h => h) HS.out (wantedT rfl) (fun w hs => lrT rfl e8_3 hs.2 (d := .struct ts) HTS.out rfl (by kernel_rfl)) ?_
    intro F4 hF
    replace hF : F4 = F3.put (some 52) (.agg #[.slice A8 1 c8]) := hF
    have z4 : F4.tmps.size = 70 := by rw [hF]; simpa [Act.put] using z3
    have e5_4 := (show F4.eval (.tmp 5) = F3.eval (.tmp 5) by rw [hF]; exact evO (by decide)).trans e5_3
    have e6_4 := (show F4.eval (.tmp 6) = F3.eval (.tmp 6) by rw [hF]; exact evO (by decide)).trans e6_3
    have e48_4 := (show F4.eval (.tmp 48) = F3.eval (.tmp 48) by rw [hF]; exact evO (by decide)).trans e48_3
    have e49_4 := (show F4.eval (.tmp 49) = F3.eval (.tmp 49) by rw [hF]; exact evO (by decide)).trans e49_3
    have e51_4 := (show F4.eval (.tmp 51) = F3.eval (.tmp 51) by rw [hF]; exact evO (by decide)).trans e51_3
    have e52_4 : F4.eval (.tmp 52) = .agg #[.slice A8 1 c8] := by rw [hF]; exact evS (by rw [z3]; decide)
    have HF4 := Lib.hid hF
    clear hF e5_3 e6_3 e8_3 e48_3 e49_3 e51_3
    refine aloneT (i := 2) (oi := _) rfl (by kernel_rfl) (wantedT rfl) ?_
    refine wpCall (clT (f := 24) (args := #[.int .u64 9223372036854775808, .int .u64 0]) rfl (by simp only [List.map_toArray, List.map_cons, List.map_nil, e48_4, e49_4] <;> rfl) (fun args w => by kernel_rfl)) (fun v w' => v = .bool true ∧ w' = u0.drew) ((Fl.Same_any _ _ _).mono (by rintro e w' ⟨rfl, rfl⟩; exact ⟨_, rfl, by first | rfl | rw [HF.out], rfl⟩)) ?_
    rintro v w' ⟨rfl, rfl⟩
    refine ⟨HS.out, genT fun F5 hF => ?_⟩
    have HS := Lib.hid (HS.out)
    replace hF : F5 = F4.put (some 50) (.bool true) := hF
    have z5 : F5.tmps.size = 70 := by rw [hF]; simpa [Act.put] using z4
    have e5_5 := (show F5.eval (.tmp 5) = F4.eval (.tmp 5) by rw [hF]; exact evO (by decide)).trans e5_4
    have e6_5 := (show F5.eval (.tmp 6) = F4.eval (.tmp 6) by rw [hF]; exact evO (by decide)).trans e6_4
    have e50_5 : F5.eval (.tmp 50) = .bool true := by rw [hF]; exact evS (by rw [z4]; decide)
    have e51_5 := (show F5.eval (.tmp 51) = F4.eval (.tmp 51) by rw [hF]; exact evO (by decide)).trans e51_4
    have e52_5 := (show F5.eval (.tmp 52) = F4.eval (.tmp 52) by rw [hF]; exact evO (by decide)).trans e52_4
    have HF5 := Lib.hid hF
    clear hF e5_4 e6_4 e48_4 e49_4 e51_4 e52_4
    refine aloneT (i := 5) (oi := _) rfl (by kernel_rfl) (wantedT rfl) ?_
    refine wpCall (clT (f := 18) (args := #[.agg #[.slice A7 1 c7], .agg #[.slice A8 1 c8]]) rfl (by simp only [List.map_toArray, List.map_cons, List.map_nil, e51_5, e52_5] <;> rfl) (fun args w => by kernel_rfl)) (fun v w' => v = .bool false ∧ Qt u0.drew w') ((HSM.out u0.drew (Qt.refl u0).drew).mono (by rintro e w' ⟨rfl, q⟩; exact ⟨_, rfl, rfl, q⟩)) ?_
    rintro v w9 ⟨rfl, q9⟩
    refine ⟨And.intro (rangeQt HS.out.1 q9) (rangeQt HS.out.2 q9), genT fun F6 hF => ?_⟩
    have HS := Lib.hid (And.intro (rangeQt HS.out.1 q9) (rangeQt HS.out.2 q9))
    replace hF : F6 = F5.put (some 53) (.bool false) := hF
    have z6 : F6.tmps.size = 70 := by rw [hF]; simpa [Act.put] using z5
    have e5_6 := (show F6.eval (.tmp 5) = F5.eval (.tmp 5) by rw [hF]; exact evO (by decide)).trans e5_5
    have e6_6 := (show F6.eval (.tmp 6) = F5.eval (.tmp 6) by rw [hF]; exact evO (by decide)).trans e6_5
    have e50_6 := (show F6.eval (.tmp 50) = F5.eval (.tmp 50) by rw [hF]; exact evO (by decide)).trans e50_5
    have e53_6 : F6.eval (.tmp 53) = .bool false := by rw [hF]; exact evS (by rw [z5]; decide)
    have HF6 := Lib.hid hF
    clear hF e5_5 e6_5 e50_5 e51_5 e52_5
    refine tkT (i := 6) (oi := _) (v := .bool false) rfl (by kernel_rfl) (by kernel_rfl) (by kernel_rfl) (fun _ _ _ h => h) HS.out (wantedT rfl) (fun w hs => boT rfl e50_6 e53_6 (by go_simp) (by go_simp)) ?_
    intro F7 hF
    replace hF : F7 = F6.put (some 54) (.bool false) := hF
    have z7 : F7.tmps.size = 70 := by rw [hF]; simpa [Act.put] using z6
    have e5_7 := (show F7.eval (.tmp 5) = F6.eval (.tmp 5) by rw [hF]; exact evO (by decide)).trans e5_6
    have e6_7 := (show F7.eval (.tmp 6) = F6.eval (.tmp 6) by rw [hF]; exact evO (by decide)).trans e6_6
    have e54_7 : F7.eval (.tmp 54) = .bool false := by rw [hF]; exact evS (by rw [z6]; decide)
    have HF7 := Lib.hid hF
    clear hF e5_6 e6_6 e50_6 e53_6
    refine tkT (i := 7) (oi := _) (v := .bool false) rfl (by kernel_rfl) (by kernel_rfl) (by kernel_rfl) (fun _ _ _ h => h) HS.out (wantedT rfl) (fun w _ => mvT rfl e54_7 w) ?_
    intro F8 hF
    replace hF : F8 = F7.put (some 55) (.bool false) := hF
    have z8 : F8.tmps.size = 70 := by rw [hF]; simpa [Act.put] using z7
    have e5_8 := (show F8.eval (.tmp 5) = F7.eval (.tmp 5) by rw [hF]; exact evO (by decide)).trans e5_7
    have e6_8 := (show F8.eval (.tmp 6) = F7.eval (.tmp 6) by rw [hF]; exact evO (by decide)).trans e6_7
    have e55_8 : F8.eval (.tmp 55) = .bool false := by rw [hF]; exact evS (by rw [z7]; decide)
    have HF8 := Lib.hid hF
    clear hF e5_7 e6_7 e54_7
    refine tkT (i := 8) (oi := _) (v := .int .u64 9223372036854775808) rfl (by kernel_rfl) (by kernel_rfl) (by kernel_rfl) (fun _ _ _ h => h) HS.out (by rw [wantedG (d := 55) rfl rfl e55_8 (by rw [z8]; decide)]; rfl) (fun w _ => mvT rfl e5_8 w) ?_
    intro F9 hF
    replace hF : F9 = F8.put (some 56) (.int .u64 9223372036854775808) := hF
    have z9 : F9.tmps.size = 70 := by rw [hF]; simpa [Act.put] using z8
    have e5_9 := (show F9.eval (.tmp 5) = F8.eval (.tmp 5) by rw [hF]; exact evO (by decide)).trans e5_8
    have e6_9 := (show F9.eval (.tmp 6) = F8.eval (.tmp 6) by rw [hF]; exact evO (by decide)).trans e6_8
    have e55_9 := (show F9.eval (.tmp 55) = F8.eval (.tmp 55) by rw [hF]; exact evO (by decide)).trans e55_8
    have e56_9 : F9.eval (.tmp 56) = .int .u64 9223372036854775808 := by rw [hF]; exact evS (by rw [z8]; decide)
    have HF9 := Lib.hid hF
    clear hF e5_8 e6_8 e55_8
    refine tkT (i := 9) (oi := _) (v := .bool false) rfl (by kernel_rfl) (by kernel_rfl) (by kernel_rfl) (fun _ _ _ h => h) HS.out (by rw [wantedG (d := 55) rfl rfl e55_9 (by rw [z9]; decide)]; rfl) (fun w hs => boT rfl e56_9 rfl (by go_simp) (by go_simp)) ?_
    intro F10 hF
    replace hF : F10 = F9.put (some 57) (.bool false) := hF
    have z10 : F10.tmps.size = 70 := by rw [hF]; simpa [Act.put] using z9
    have e5_10 := (show F10.eval (.tmp 5) = F9.eval (.tmp 5) by rw [hF]; exact evO (by decide)).trans e5_9
    have e6_10 := (show F10.eval (.tmp 6) = F9.eval (.tmp 6) by rw [hF]; exact evO (by decide)).trans e6_9
    have e55_10 := (show F10.eval (.tmp 55) = F9.eval (.tmp 55) by rw [hF]; exact evO (by decide)).trans e55_9
    have e57_10 : F10.eval (.tmp 57) = .bool false := by rw [hF]; exact evS (by rw [z9]; decide)
    have HF10 := Lib.hid hF
    clear hF e5_9 e6_9 e55_9 e56_9
    refine tkT (i := 10) (oi := _) (v := .bool false) rfl (by kernel_rfl) (by kernel_rfl) (by kernel_rfl) (fun _ _ _ h => h) HS.out (by rw [wantedG (d := 55) rfl rfl e55_10 (by rw [z10]; decide)]; rfl) (fun w _ => mvT rfl e57_10 w) ?_
    intro F11 hF
    replace hF : F11 = F10.put (some 58) (.bool false) := hF
    have z11 : F11.tmps.size = 70 := by rw [hF]; simpa [Act.put] using z10
    have e5_11 := (show F11.eval (.tmp 5) = F10.eval (.tmp 5) by rw [hF]; exact evO (by decide)).trans e5_10
    have e6_11 := (show F11.eval (.tmp 6) = F10.eval (.tmp 6) by rw [hF]; exact evO (by decide)).trans e6_10
    have e55_11 := (show F11.eval (.tmp 55) = F10.eval (.tmp 55) by rw [hF]; exact evO (by decide)).trans e55_10
    have e58_11 : F11.eval (.tmp 58) = .bool false := by rw [hF]; exact evS (by rw [z10]; decide)
    have HF11 := Lib.hid hF
    clear hF e5_10 e6_10 e55_10 e57_10
    refine skT (i := 11) (oi := _) rfl (by kernel_rfl) (by kernel_rfl) (by kernel_rfl) (fun _ _ _ h => h) HS.out (by rw [wantedG (d := 58) rfl rfl e58_11 (by rw [z11]; decide)]; rfl) ?_
    intro F12 hF
    replace hF : F12 = F11.put (some 59) (undef) := hF
    have z12 : F12.tmps.size = 70 := by rw [hF]; simpa [Act.put] using z11
    have e5_12 := (show F12.eval (.tmp 5) = F11.eval (.tmp 5) by rw [hF]; exact evO (by decide)).trans e5_11
    have e6_12 := (show F12.eval (.tmp 6) = F11.eval (.tmp 6) by rw [hF]; exact evO (by decide)).trans e6_11
    have e55_12 := (show F12.eval (.tmp 55) = F11.eval (.tmp 55) by rw [hF]; exact evO (by decide)).trans e55_11
    have e58_12 := (show F12.eval (.tmp 58) = F11.eval (.tmp 58) by rw [hF]; exact evO (by decide)).trans e58_11
    have HF12 := Lib.hid hF
    clear hF e5_11 e6_11 e55_11 e58_11
    refine skT (i := 12) (oi := _) rfl (by kernel_rfl) (by kernel_rfl) (by kernel_rfl) (fun _ _ _ h => h) HS.out (by rw [wantedG (d := 58) rfl rfl e58_12 (by rw [z12]; decide)]; rfl) ?_
    intro F13 hF
    replace hF : F13 = F12.put (some 60) (undef) := hF
    have z13 : F13.tmps.size = 70 := by rw [hF]; simpa [Act.put] using z12
    have e5_13 := (show F13.eval (.tmp 5) = F12.eval (.tmp 5) by rw [hF]; exact evO (by decide)).trans e5_12
    have e6_13 := (show F13.eval (.tmp 6) = F12.eval (.tmp 6) by rw [hF]; exact evO (by decide)).trans e6_12
    have e55_13 := (show F13.eval (.tmp 55) = F12.eval (.tmp 55) by rw [hF]; exact evO (by decide)).trans e55_12
    have e58_13 := (show F13.eval (.tmp 58) = F12.eval (.tmp 58) by rw [hF]; exact evO (by decide)).trans e58_12
    have e60_13 : F13.eval (.tmp 60) = undef := by rw [hF]; exact evS (by rw [z12]; decide)
    have HF13 := Lib.hid hF
    clear hF e5_12 e6_12 e55_12 e58_12
    refine tkT (i := 13) (oi := _) (v := .bool false) rfl (by kernel_rfl) (by kernel_rfl) (by kernel_rfl) (fun _ _ _ h => h) HS.out (by rw [wantedG (d := 55) rfl rfl e55_13 (by rw [z13]; decide)]; rfl) (fun w hs => pkT (vy := .bool false) rfl e58_13 rfl rfl w) ?_
    intro F14 hF
    replace hF : F14 = F13.put (some 61) (.bool false) := hF
    have z14 : F14.tmps.size = 70 := by rw [hF]; simpa [Act.put] using z13
    have e5_14 := (show F14.eval (.tmp 5) = F13.eval (.tmp 5) by rw [hF]; exact evO (by decide)).trans e5_13
    have e6_14 := (show F14.eval (.tmp 6) = F13.eval (.tmp 6) by rw [hF]; exact evO (by decide)).trans e6_13
    have e55_14 := (show F14.eval (.tmp 55) = F13.eval (.tmp 55) by rw [hF]; exact evO (by decide)).trans e55_13
    have e61_14 : F14.eval (.tmp 61) = .bool false := by rw [hF]; exact evS (by rw [z13]; decide)
    have HF14 := Lib.hid hF
    clear hF e5_13 e6_13 e55_13 e58_13 e60_13
    refine tkT (i := 14) (oi := _) (v := .bool false) rfl (by kernel_rfl) (by kernel_rfl) (by kernel_rfl) (fun _ _ _ h => h) HS.out (wantedT rfl) (fun w hs => pkT (vx := .bool true) rfl e55_14 rfl e61_14 w) ?_
    intro F15 hF
    replace hF : F15 = F14.put (some 62) (.bool false) := hF
    have z15 : F15.tmps.size = 70 := by rw [hF]; simpa [Act.put] using z14
    have e5_15 := (show F15.eval (.tmp 5) = F14.eval (.tmp 5) by rw [hF]; exact evO (by decide)).trans e5_14
    have e6_15 := (show F15.eval (.tmp 6) = F14.eval (.tmp 6) by rw [hF]; exact evO (by decide)).trans e6_14
    have e62_15 : F15.eval (.tmp 62) = .bool false := by rw [hF]; exact evS (by rw [z14]; decide)
    have HF15 := Lib.hid hF
    clear hF e5_14 e6_14 e55_14 e61_14
    refine tkT (i := 15) (oi := _) (v := .bool false) rfl (by kernel_rfl) (by kernel_rfl) (by kernel_rfl) (fun _ _ _ h => h) HS.out (wantedT rfl) (fun w _ => mvT rfl e62_15 w) ?_
    intro F16 hF
    replace hF : F16 = F15.put (some 63) (.bool false) := hF
    have z16 : F16.tmps.size = 70 := by rw [hF]; simpa [Act.put] using z15
    have e5_16 := (show F16.eval (.tmp 5) = F15.eval (.tmp 5) by rw [hF]; exact evO (by decide)).trans e5_15
    have e6_16 := (show F16.eval (.tmp 6) = F15.eval (.tmp 6) by rw [hF]; exact evO (by decide)).trans e6_15
    have e63_16 : F16.eval (.tmp 63) = .bool false := by rw [hF]; exact evS (by rw [z15]; decide)
    have HF16 := Lib.hid hF
    clear hF e5_15 e6_15 e62_15
    refine tkT (i := 16) (oi := _) (v := .int .u64 9223372036854775808) rfl (by kernel_rfl) (by kernel_rfl) (by kernel_rfl) (fun _ _ _ h => h) HS.out (by rw [wantedG (d := 63) rfl rfl e63_16 (by rw [z16]; decide)]; rfl) (fun w _ => mvT rfl e5_16 w) ?_
    intro F17 hF
    replace hF : F17 = F16.put (some 64) (.int .u64 9223372036854775808) := hF
    have z17 : F17.tmps.size = 70 := by rw [hF]; simpa [Act.put] using z16
    have e6_17 := (show F17.eval (.tmp 6) = F16.eval (.tmp 6) by rw [hF]; exact evO (by decide)).trans e6_16
    have e63_17 := (show F17.eval (.tmp 63) = F16.eval (.tmp 63) by rw [hF]; exact evO (by decide)).trans e63_16
    have e64_17 : F17.eval (.tmp 64) = .int .u64 9223372036854775808 := by rw [hF]; exact evS (by rw [z16]; decide)
    have HF17 := Lib.hid hF
    clear hF e5_16 e6_16 e63_16
    refine tkT (i := 17) (oi := _) (v := .int .u64 0) rfl (by kernel_rfl) (by kernel_rfl) (by kernel_rfl) (fun _ _ _ h => h) HS.out (by rw [wantedG (d := 63) rfl rfl e63_17 (by rw [z17]; decide)]; rfl) (fun w _ => mvT rfl e6_17 w) ?_
    intro F18 hF
    replace hF : F18 = F17.put (some 65) (.int .u64 0) := hF
    have z18 : F18.tmps.size = 70 := by rw [hF]; simpa [Act.put] using z17
    have e63_18 := (show F18.eval (.tmp 63) = F17.eval (.tmp 63) by rw [hF]; exact evO (by decide)).trans e63_17
    have e64_18 := (show F18.eval (.tmp 64) = F17.eval (.tmp 64) by rw [hF]; exact evO (by decide)).trans e64_17
    have e65_18 : F18.eval (.tmp 65) = .int .u64 0 := by rw [hF]; exact evS (by rw [z17]; decide)
    have HF18 := Lib.hid hF
    clear hF e6_17 e63_17 e64_17
    refine tkT (i := 18) (oi := _) (v := .int .u64 9223372036854775808) rfl (by kernel_rfl) (by kernel_rfl) (by kernel_rfl) (fun _ _ _ h => h) HS.out (by rw [wantedG (d := 63) rfl rfl e63_18 (by rw [z18]; decide)]; rfl) (fun w hs => boT rfl e64_18 e65_18 (by go_simp) (by kernel_rfl)) ?_
    intro F19 hF
    replace hF : F19 = F18.put (some 66) (.int .u64 9223372036854775808) := hF
    have z19 : F19.tmps.size = 70 := by rw [hF]; simpa [Act.put] using z18
    have e63_19 := (show F19.eval (.tmp 63) = F18.eval (.tmp 63) by rw [hF]; exact evO (by decide)).trans e63_18
    have e66_19 : F19.eval (.tmp 66) = .int .u64 9223372036854775808 := by rw [hF]; exact evS (by rw [z18]; decide)
    have HF19 := Lib.hid hF
    clear hF e63_18 e64_18 e65_18
    refine tkT (i := 19) (oi := _) (v := .int .u64 0) rfl (by kernel_rfl) (by kernel_rfl) (by kernel_rfl) (fun _ _ _ h => h) HS.out (by rw [wantedG (d := 63) rfl rfl e63_19 (by rw [z19]; decide)]; rfl) (fun w hs => boT rfl e66_19 rfl (by go_simp) (by kernel_rfl)) ?_
    intro F20 hF
    replace hF : F20 = F19.put (some 67) (.int .u64 0) := hF
    have z20 : F20.tmps.size = 70 := by rw [hF]; simpa [Act.put] using z19
    have e63_20 := (show F20.eval (.tmp 63) = F19.eval (.tmp 63) by rw [hF]; exact evO (by decide)).trans e63_19
    have e67_20 : F20.eval (.tmp 67) = .int .u64 0 := by rw [hF]; exact evS (by rw [z19]; decide)
    have HF20 := Lib.hid hF
    clear hF e63_19 e66_19
    refine tkT (i := 20) (oi := _) (v := .bool true) rfl (by kernel_rfl) (by kernel_rfl) (by kernel_rfl) (fun _ _ _ h => h) HS.out (by rw [wantedG (d := 63) rfl rfl e63_20 (by rw [z20]; decide)]; rfl) (fun w hs => boT rfl e67_20 rfl (by go_simp) (by go_simp)) ?_
    intro F21 hF
    replace hF : F21 = F20.put (some 68) (.bool true) := hF
    have z21 : F21.tmps.size = 70 := by rw [hF]; simpa [Act.put] using z20
    have e63_21 := (show F21.eval (.tmp 63) = F20.eval (.tmp 63) by rw [hF]; exact evO (by decide)).trans e63_20
    have e68_21 : F21.eval (.tmp 68) = .bool true := by rw [hF]; exact evS (by rw [z20]; decide)
    have HF21 := Lib.hid hF
    clear hF e63_20 e67_20
    refine tkT (i := 21) (oi := _) (v := .bool true) rfl (by kernel_rfl) (by kernel_rfl) (by kernel_rfl) (fun _ _ _ h => h) HS.out (wantedT rfl) (fun w hs => pkT (vx := .bool true) rfl e63_21 rfl e68_21 w) ?_
    intro F22 hF
    replace hF : F22 = F21.put (some 69) (.bool true) := hF
    have z22 : F22.tmps.size = 70 := by rw [hF]; simpa [Act.put] using z21
    have e69_22 : F22.eval (.tmp 69) = .bool true := by rw [hF]; exact evS (by rw [z21]; decide)
    have HF22 := Lib.hid hF
    clear hF e63_21 e68_21
    refine tkT (i := 22) (oi := _) (v := .bool true) rfl (by kernel_rfl) (by kernel_rfl) (by kernel_rfl) (fun _ _ _ h => h) HS.out (wantedT rfl) (fun w _ => asT rfl e69_22 w) ?_
    intro F23 hF
    replace hF : F23 = F22.put (some 4) (.bool true) := hF
    have z23 : F23.tmps.size = 70 := by rw [hF]; simpa [Act.put] using z22
    have HF23 := Lib.hid hF
    clear hF e69_22
    refine wpAnyH_done (by kernel_rfl) ?_ _
    rw [HF23.out, HF22.out, HF21.out, HF20.out, HF19.out, HF18.out, HF17.out, HF16.out, HF15.out, HF14.out, HF13.out, HF12.out, HF11.out, HF10.out, HF9.out, HF8.out, HF7.out, HF6.out, HF5.out, HF4.out, HF3.out, HF2.out, HF1.out, HA.out]
    simp only [Act.put, List.setIfInBounds_toArray, List.set_cons_succ, List.set_cons_zero]
    clear HF23 HF22 HF21 HF20 HF19 HF18 HF17 HF16 HF15 HF14 HF13 HF12 HF11 HF10 HF9 HF8 HF7 HF6 HF5 HF4 HF3 HF2 HF1 HA z23 z22 z21 z20 z19 z18 z17 z16 z15 z14 z13 z12 z11 z10 z9 z8 z7 z6 z5 z4 z3 z2 z1 z0 
    go_wp2
    go_ret
    exact ⟨rfl, QB.out.trans ((Qt.refl u0).drew.trans q9)⟩
end Go.Proofs.Ytipgpnkdgofdeaa.Tm
