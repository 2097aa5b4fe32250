import Derived.Test.YtipgpnkdgofdeaaTH
/-! rising, printed by genrise.py. -/
namespace Go.Proofs.Ytipgpnkdgofdeaa.Tm
open Go.RowKit Go.Proofs.Ytipgpnkdgofdeaa.Fl
set_option linter.unusedVariables false
set_option linter.unusedSimpArgs false

def rise : List Tr → Bool
  | a :: _ :: c :: r => decide (ord a c < 0) && rise (c :: r)
  | _ => true
def rising (ks : List Tr) : Bool := ks.length % 2 == 0 && rise ks
theorem rise_step {ks : List Tr} {j : Nat} {a x : Tr} (ha : ks[j]? = some a) (hx : ks[j + 2]? = some x) : rise (ks.drop j) = (decide (ord a x < 0) && rise (ks.drop (j + 2))) := by
  have hj2 := (List.getElem?_eq_some_iff.1 hx).1
  have e0 : ks[j] = a := Option.some.inj ((List.getElem?_eq_getElem (by omega)).symm.trans ha)
  have e2 : ks[j + 2] = x := Option.some.inj ((List.getElem?_eq_getElem hj2).symm.trans hx)
  have d2 : ks.drop (j + 2) = x :: ks.drop (j + 3) := by rw [List.drop_eq_getElem_cons hj2, e2]
  have d1 : ks.drop (j + 1) = ks[j + 1] :: ks.drop (j + 2) := List.drop_eq_getElem_cons (by omega)
  have d0 : ks.drop j = a :: ks.drop (j + 1) := by rw [List.drop_eq_getElem_cons (show j < ks.length by omega), e0]
  rw [d0, d1, d2]
  rfl
theorem rise_end {ks : List Tr} {j : Nat} (h : ks.length ≤ j + 2) : rise (ks.drop j) = true := by
  have hl : (ks.drop j).length ≤ 2 := by rw [List.length_drop]; omega
  match ks.drop j, hl with
  | [], _ => rfl
  | [_], _ => rfl
  | [_, _], _ => rfl

set_option maxRecDepth 100000 in
set_option maxHeartbeats 1000000 in
theorem rising_any (t : Tr) (cs : List Value) (ok : Nat → Prop) (w : World) (hm : t.flat.length ≤ 1000000) (hbr : Br w ok cs t) :
    Calls Try.prog 81 #[.agg cs.toArray] w fun e w' => e = .returned (.bool (rising t.kids)) ∧ Qt w w' := by
  obtain ⟨n, ks⟩ := t
  obtain ⟨A, c, avA, avc, cf, hcs, h7, h1, h5, hc, hK, _⟩ := hbr.parts
  obtain ⟨gs, hgs⟩ : ∃ fs, Try.prog.underlying 60 = some (.struct fs) := ⟨_, Try.underlying60⟩
  have hlen : (Tr.mk n ks).flat.length = (flats ks).length + 1 := by simp [Tr.flat]
  have hkl := flats_len ks
  have hkn : ks.length ≤ 1000000 := by omega
  have hkid : ∀ k, k ∈ ks → k.flat.length ≤ 1000000 := fun k hk => by have := kid_lt (n := n) hk; omega
  have HKI := Lib.hid hK
  have HKD := Lib.hid hkid
  have HGS := Lib.hid hgs
  have HCS := Lib.hid hcs
  have HC5 := Lib.hid h5
  clear hbr hK hgs hlen hkid hkl hm
  show Calls _ _ _ _ fun e w' => e = .returned (.bool (rising ks)) ∧ Qt w w'
  by_cases h2 : ks.length % 2 = 0
  · have hri : rising ks = rise ks := by unfold rising; rw [h2]; rfl
    rw [hri]
    clear hri
    obtain ⟨av, hav⟩ : ∃ av : Value, av = .slice avA (Tr.mk n ks).flat.length avc := ⟨_, rfl⟩
    rw [← hav] at hcs
    have c5 : (w.alloc (.cells cs.toArray 60)).cell? ⟨w.heap.size, 5, none⟩ = some (.slice A ks.length c) := by rw [World.cell?_alloc_new]; simpa using h5
    have g2 : ((ks.length : Int)).tmod 2 = 0 := by rw [Int.tmod_eq_emod_of_nonneg (by omega)]; omega
    obtain ⟨B, hB⟩ : ∃ B, B = w.heap.size := ⟨_, rfl⟩
    have HCS2 := Lib.hid hcs
    clear hav h5 hcs
    go_enter Try.func81, Try.ntmps81
    go_wp2
    have hb0 : Blk (w.alloc (.cells cs.toArray 60)) w.heap.size 60 cs := heap_alloc_new w _
    have hq0 : Qt w (w.alloc (.cells cs.toArray 60)) := (Qt.refl w).alloc _
    rw [← hB] at hb0 ⊢
    rw [← hB] at c5
    generalize (w.alloc (.cells cs.toArray 60)) = w0 at hb0 hq0 c5 ⊢
    have HB0 := Lib.hid hb0
    have HQ0 := Lib.hid hq0
    clear hb0 hq0 hB c5 g2
    go_loopw [3] (fun i wr => ∃ j : Nat, j ≤ ks.length ∧ j % 2 = 0 ∧ i = .int .i64 ((j : Int) + 2) ∧ rise ks = rise (ks.drop j) ∧ Qt w0 wr) (fun i _ => ks.length + 4 - (intOf i).toNat)
    case atStart => exact ⟨0, by omega, rfl, rfl, rfl, Qt.refl _⟩
    case round =>
      obtain ⟨j, hj, hj2, rfl, he, hq⟩ := hrel
      have HE := Lib.hid he
      have HQ := Lib.hid hq
      have hbx := HB0.out.qt hq
      have HBX := Lib.hid (show Blk wr B 60 (ndc n ++ [.slice A ks.length c, av]) by rw [← HCS2.out]; exact hbx)
      have c5 : wr.cell? ⟨B, 5, none⟩ = some (.slice A ks.length c) := (hbx.cell 5).trans HC5.out
      clear he hq hbx
      by_cases hlt : j + 2 < ks.length
      · obtain ⟨a, ha⟩ : ∃ a, ks[j]? = some a := ⟨_, List.getElem?_eq_getElem (by omega)⟩
        obtain ⟨x, hx⟩ : ∃ x, ks[j + 2]? = some x := ⟨_, List.getElem?_eq_getElem hlt⟩
        obtain ⟨b, off, rfl, hra, hba⟩ := HKI.out j a ha
        obtain ⟨b', off', e', hrc, hbc⟩ := HKI.out (j + 2) x hx
        cases e'
        have a7 := hba.len
        have c7 := hbc.len
        have hqw := HQ0.out.trans HQ.out
        have HRA := Lib.hid (show wr.drew.rangeAt b (off + j * 7) (cf j) from rangeQt hra hqw.drew)
        have HRC := Lib.hid (show wr.drew.rangeAt b (off + (j + 2) * 7) (cf (j + 2)) from rangeQt hrc hqw.drew)
        have HC := Lib.hid (fun w' (q : Qt wr w') => order_any _ a x (cf j) (cf (j + 2)) ok ok w' (Nat.le_refl _) (HKD.out a (List.mem_of_getElem? ha)) (HKD.out x (List.mem_of_getElem? hx)) (hba.qt (hqw.trans q)) (hbc.qt (hqw.trans q)))
        have HST := Lib.hid (rise_step ha hx)
        clear hra hrc hba hbc hqw ha hx
        generalize cf j = ca at *
        generalize cf (j + 2) = cc at *
        by_cases h0 : ord a x < 0
        · have g0 : decide (0 ≤ ord a x) = false := decide_eq_false (by omega)
          have HH := Lib.hid h0
          go_wp2
          clear c5 h0
          refine wp_region_held (S := (fun u => u.rangeAt B 0 (ndc n ++ [.slice (some ⟨b, off, none⟩) ks.length c, av]) ∧ u.rangeAt b (off + j * 7) ca ∧ u.rangeAt b (off + (j + 2) * 7) cc)) (by kernel_rfl) ?_
          change wpAnyH _ _ _ _ _ _ _ _ (World.drew _)
          refine genT fun F0 hA => ?_
          have z0 : F0.tmps.size = 29 := by rw [hA]; rfl
          have e1_0 : F0.eval (.tmp 1) = .pointer (some ⟨B, 0, none⟩) := by rw [hA]; rfl
          have e3_0 : F0.eval (.tmp 3) = .int .i64 ((j : Int) + 2) := by rw [hA]; rfl
          have HA := Lib.hid hA
          clear hA
          have HS := Lib.hid (show World.rangeAt wr.drew _ _ _ ∧ World.rangeAt wr.drew _ _ _ ∧ World.rangeAt wr.drew _ _ _ from ⟨(show Blk wr.drew B _ _ from HBX.out).range 0 (ndc n ++ [.slice (some ⟨b, off, none⟩) ks.length c, av]) rfl, HRA.out, HRC.out⟩)
          refine tkT (i := 0) (oi := _) (v := .pointer (some ⟨B, 5, none⟩)) rfl (by kernel_rfl) (by kernel_rfl) (by kernel_rfl) (fun _ _ _ h => h) HS.out (wantedT rfl) (fun w _ => faT rfl e1_0 (by go_simp)) ?_
          intro F1 hF
          replace hF : F1 = F0.put (some 16) (.pointer (some ⟨B, 5, none⟩)) := hF
          have z1 : F1.tmps.size = 29 := by rw [hF]; simpa [Act.put] using z0
          have e1_1 := (show F1.eval (.tmp 1) = F0.eval (.tmp 1) by rw [hF]; exact evO (by decide)).trans e1_0
          have e3_1 := (show F1.eval (.tmp 3) = F0.eval (.tmp 3) by rw [hF]; exact evO (by decide)).trans e3_0
          have e16_1 : F1.eval (.tmp 16) = .pointer (some ⟨B, 5, none⟩) := by rw [hF]; exact evS (by rw [z0]; decide)
          have HF1 := Lib.hid hF
          clear hF e1_0 e3_0
          refine tkT (i := 1) (oi := _) (v := .slice (some ⟨b, off, none⟩) ks.length c) rfl (by kernel_rfl) (by kernel_rfl) (by kernel_rfl) (fun _ _ _ h => h) HS.out (wantedT rfl) (fun w hs => by have c1 := hs.1 5 (.slice (some ⟨b, off, none⟩) ks.length c) rfl; simp only [Nat.zero_add] at c1; exact ldT rfl e16_1 (by go_simp)) ?_
          intro F2 hF
          replace hF : F2 = F1.put (some 17) (.slice (some ⟨b, off, none⟩) ks.length c) := hF
          have z2 : F2.tmps.size = 29 := by rw [hF]; simpa [Act.put] using z1
          have e1_2 := (show F2.eval (.tmp 1) = F1.eval (.tmp 1) by rw [hF]; exact evO (by decide)).trans e1_1
          have e3_2 := (show F2.eval (.tmp 3) = F1.eval (.tmp 3) by rw [hF]; exact evO (by decide)).trans e3_1
          have e17_2 : F2.eval (.tmp 17) = .slice (some ⟨b, off, none⟩) ks.length c := by rw [hF]; exact evS (by rw [z1]; decide)
          have HF2 := Lib.hid hF
          clear hF e1_1 e3_1 e16_1
          refine tkT (i := 2) (oi := _) (v := .int .i64 ((j : Int) + 2)) rfl (by kernel_rfl) (by kernel_rfl) (by kernel_rfl) (fun _ _ _ h => h) HS.out (wantedT rfl) (fun w _ => mvT rfl e3_2 w) ?_
          intro F3 hF
          replace hF : F3 = F2.put (some 18) (.int .i64 ((j : Int) + 2)) := hF
          have z3 : F3.tmps.size = 29 := by rw [hF]; simpa [Act.put] using z2
          have e1_3 := (show F3.eval (.tmp 1) = F2.eval (.tmp 1) by rw [hF]; exact evO (by decide)).trans e1_2
          have e3_3 := (show F3.eval (.tmp 3) = F2.eval (.tmp 3) by rw [hF]; exact evO (by decide)).trans e3_2
          have e17_3 := (show F3.eval (.tmp 17) = F2.eval (.tmp 17) by rw [hF]; exact evO (by decide)).trans e17_2
          have e18_3 : F3.eval (.tmp 18) = .int .i64 ((j : Int) + 2) := by rw [hF]; exact evS (by rw [z2]; decide)
          have HF3 := Lib.hid hF
          clear hF e1_2 e3_2 e17_2
          refine tkT (i := 3) (oi := _) (v := .int .i64 (j : Int)) rfl (by kernel_rfl) (by kernel_rfl) (by kernel_rfl) (fun _ _ _ h => h) HS.out (wantedT rfl) (fun w hs => boT rfl e18_3 rfl (by go_simp) (by go_simp; first | done | (rw [IntKind.wrap_i64]; omega) | go_num)) ?_
          intro F4 hF
          replace hF : F4 = F3.put (some 19) (.int .i64 (j : Int)) := hF
          have z4 : F4.tmps.size = 29 := by rw [hF]; simpa [Act.put] using z3
          have e1_4 := (show F4.eval (.tmp 1) = F3.eval (.tmp 1) by rw [hF]; exact evO (by decide)).trans e1_3
          have e3_4 := (show F4.eval (.tmp 3) = F3.eval (.tmp 3) by rw [hF]; exact evO (by decide)).trans e3_3
          have e17_4 := (show F4.eval (.tmp 17) = F3.eval (.tmp 17) by rw [hF]; exact evO (by decide)).trans e17_3
          have e19_4 : F4.eval (.tmp 19) = .int .i64 (j : Int) := by rw [hF]; exact evS (by rw [z3]; decide)
          have HF4 := Lib.hid hF
          clear hF e1_3 e3_3 e17_3 e18_3
          refine tkT (i := 4) (oi := _) (v := .pointer (some ⟨b, off + j * 7, none⟩)) rfl (by kernel_rfl) (by kernel_rfl) (by kernel_rfl) (fun _ _ _ h => h) HS.out (wantedT rfl) (fun w _ => iaT rfl e17_4 e19_4 (by have f1 : ¬ ks.length ≤ j := (by omega); go_simp)) ?_
          intro F5 hF
          replace hF : F5 = F4.put (some 20) (.pointer (some ⟨b, off + j * 7, none⟩)) := hF
          have z5 : F5.tmps.size = 29 := by rw [hF]; simpa [Act.put] using z4
          have e1_5 := (show F5.eval (.tmp 1) = F4.eval (.tmp 1) by rw [hF]; exact evO (by decide)).trans e1_4
          have e3_5 := (show F5.eval (.tmp 3) = F4.eval (.tmp 3) by rw [hF]; exact evO (by decide)).trans e3_4
          have e20_5 : F5.eval (.tmp 20) = .pointer (some ⟨b, off + j * 7, none⟩) := by rw [hF]; exact evS (by rw [z4]; decide)
          have HF5 := Lib.hid hF
          clear hF e1_4 e3_4 e17_4 e19_4
          refine tkT (i := 5) (oi := _) (v := .agg ca.toArray) rfl (by kernel_rfl) (by kernel_rfl) (by kernel_rfl) (fun _ _ _ h => h) HS.out (wantedT rfl) (fun w hs => lrT rfl e20_5 hs.2.1 (d := .struct gs) HGS.out rfl (by rw [a7]; kernel_rfl)) ?_
          intro F6 hF
          replace hF : F6 = F5.put (some 21) (.agg ca.toArray) := hF
          have z6 : F6.tmps.size = 29 := by rw [hF]; simpa [Act.put] using z5
          have e1_6 := (show F6.eval (.tmp 1) = F5.eval (.tmp 1) by rw [hF]; exact evO (by decide)).trans e1_5
          have e3_6 := (show F6.eval (.tmp 3) = F5.eval (.tmp 3) by rw [hF]; exact evO (by decide)).trans e3_5
          have e21_6 : F6.eval (.tmp 21) = .agg ca.toArray := by rw [hF]; exact evS (by rw [z5]; decide)
          have HF6 := Lib.hid hF
          clear hF e1_5 e3_5 e20_5
          refine tkT (i := 6) (oi := _) (v := .pointer (some ⟨B, 5, none⟩)) rfl (by kernel_rfl) (by kernel_rfl) (by kernel_rfl) (fun _ _ _ h => h) HS.out (wantedT rfl) (fun w _ => faT rfl e1_6 (by go_simp)) ?_
          intro F7 hF
          replace hF : F7 = F6.put (some 22) (.pointer (some ⟨B, 5, none⟩)) := hF
          have z7 : F7.tmps.size = 29 := by rw [hF]; simpa [Act.put] using z6
          have e3_7 := (show F7.eval (.tmp 3) = F6.eval (.tmp 3) by rw [hF]; exact evO (by decide)).trans e3_6
          have e21_7 := (show F7.eval (.tmp 21) = F6.eval (.tmp 21) by rw [hF]; exact evO (by decide)).trans e21_6
          have e22_7 : F7.eval (.tmp 22) = .pointer (some ⟨B, 5, none⟩) := by rw [hF]; exact evS (by rw [z6]; decide)
          have HF7 := Lib.hid hF
          clear hF e1_6 e3_6 e21_6
          refine tkT (i := 7) (oi := _) (v := .slice (some ⟨b, off, none⟩) ks.length c) rfl (by kernel_rfl) (by kernel_rfl) (by kernel_rfl) (fun _ _ _ h => h) HS.out (wantedT rfl) (fun w hs => by have c1 := hs.1 5 (.slice (some ⟨b, off, none⟩) ks.length c) rfl; simp only [Nat.zero_add] at c1; exact ldT rfl e22_7 (by go_simp)) ?_
          intro F8 hF
          replace hF : F8 = F7.put (some 23) (.slice (some ⟨b, off, none⟩) ks.length c) := hF
          have z8 : F8.tmps.size = 29 := by rw [hF]; simpa [Act.put] using z7
          have e3_8 := (show F8.eval (.tmp 3) = F7.eval (.tmp 3) by rw [hF]; exact evO (by decide)).trans e3_7
          have e21_8 := (show F8.eval (.tmp 21) = F7.eval (.tmp 21) by rw [hF]; exact evO (by decide)).trans e21_7
          have e23_8 : F8.eval (.tmp 23) = .slice (some ⟨b, off, none⟩) ks.length c := by rw [hF]; exact evS (by rw [z7]; decide)
          have HF8 := Lib.hid hF
          clear hF e3_7 e21_7 e22_7
          refine tkT (i := 8) (oi := _) (v := .int .i64 ((j : Int) + 2)) rfl (by kernel_rfl) (by kernel_rfl) (by kernel_rfl) (fun _ _ _ h => h) HS.out (wantedT rfl) (fun w _ => mvT rfl e3_8 w) ?_
          intro F9 hF
          replace hF : F9 = F8.put (some 24) (.int .i64 ((j : Int) + 2)) := hF
          have z9 : F9.tmps.size = 29 := by rw [hF]; simpa [Act.put] using z8
          have e21_9 := (show F9.eval (.tmp 21) = F8.eval (.tmp 21) by rw [hF]; exact evO (by decide)).trans e21_8
          have e23_9 := (show F9.eval (.tmp 23) = F8.eval (.tmp 23) by rw [hF]; exact evO (by decide)).trans e23_8
          have e24_9 : F9.eval (.tmp 24) = .int .i64 ((j : Int) + 2) := by rw [hF]; exact evS (by rw [z8]; decide)
          have HF9 := Lib.hid hF
          clear hF e3_8 e21_8 e23_8
          refine tkT (i := 9) (oi := _) (v := .pointer (some ⟨b, off + (j + 2) * 7, none⟩)) rfl (by kernel_rfl) (by kernel_rfl) (by kernel_rfl) (fun _ _ _ h => h) HS.out (wantedT rfl) (fun w _ => iaT rfl e23_9 e24_9 (by have f2 : (0 : Int) ≤ (j : Int) + 2 := (by omega); have f3 : ((j : Int) + 2).toNat = j + 2 := (by omega); have f4 : (j : Int) + 2 < (ks.length : Int) := (by omega); go_simp)) ?_
          intro F10 hF
          replace hF : F10 = F9.put (some 25) (.pointer (some ⟨b, off + (j + 2) * 7, none⟩)) := hF
          have z10 : F10.tmps.size = 29 := by rw [hF]; simpa [Act.put] using z9
          have e21_10 := (show F10.eval (.tmp 21) = F9.eval (.tmp 21) by rw [hF]; exact evO (by decide)).trans e21_9
          have e25_10 : F10.eval (.tmp 25) = .pointer (some ⟨b, off + (j + 2) * 7, none⟩) := by rw [hF]; exact evS (by rw [z9]; decide)
          have HF10 := Lib.hid hF
          clear hF e21_9 e23_9 e24_9
          refine tkT (i := 10) (oi := _) (v := .agg cc.toArray) rfl (by kernel_rfl) (by kernel_rfl) (by kernel_rfl) (fun _ _ _ h => h) HS.out (wantedT rfl) (fun w hs => lrT rfl e25_10 hs.2.2 (d := .struct gs) HGS.out rfl (by rw [c7]; kernel_rfl)) ?_
          intro F11 hF
          replace hF : F11 = F10.put (some 26) (.agg cc.toArray) := hF
          have z11 : F11.tmps.size = 29 := by rw [hF]; simpa [Act.put] using z10
          have e21_11 := (show F11.eval (.tmp 21) = F10.eval (.tmp 21) by rw [hF]; exact evO (by decide)).trans e21_10
          have e26_11 : F11.eval (.tmp 26) = .agg cc.toArray := by rw [hF]; exact evS (by rw [z10]; decide)
          have HF11 := Lib.hid hF
          clear hF e21_10 e25_10
          refine aloneT (i := 11) (oi := _) rfl (by kernel_rfl) (wantedT rfl) ?_
          refine wpCall (clT (f := 43) (args := #[.agg ca.toArray, .agg cc.toArray]) rfl (by simp only [List.map_toArray, List.map_cons, List.map_nil, e21_11, e26_11] <;> rfl) (fun args w => by kernel_rfl)) (fun v w' => v = .int .i64 (ord a x) ∧ Qt wr.drew w') ((HC.out _ (Qt.refl wr).drew).mono (by rintro e w' ⟨rfl, q⟩; exact ⟨_, rfl, rfl, q⟩)) ?_
          rintro v w5 ⟨rfl, q5⟩
          refine ⟨And.intro (rangeQt HS.out.1 q5) (And.intro (rangeQt HS.out.2.1 q5) (rangeQt HS.out.2.2 q5)), genT fun F12 hF => ?_⟩
          have HS := Lib.hid (And.intro (rangeQt HS.out.1 q5) (And.intro (rangeQt HS.out.2.1 q5) (rangeQt HS.out.2.2 q5)))
          replace hF : F12 = F11.put (some 27) (.int .i64 (ord a x)) := hF
          have z12 : F12.tmps.size = 29 := by rw [hF]; simpa [Act.put] using z11
          have e27_12 : F12.eval (.tmp 27) = .int .i64 (ord a x) := by rw [hF]; exact evS (by rw [z11]; decide)
          have HF12 := Lib.hid hF
          clear hF e21_11 e26_11
          refine tkT (i := 12) (oi := _) (v := .bool false) rfl (by kernel_rfl) (by kernel_rfl) (by kernel_rfl) (fun _ _ _ h => h) HS.out (wantedT rfl) (fun w hs => boT rfl e27_12 rfl (by go_simp) (by go_simp)) ?_
          intro F13 hF
          replace hF : F13 = F12.put (some 28) (.bool false) := hF
          have z13 : F13.tmps.size = 29 := by rw [hF]; simpa [Act.put] using z12
          have HF13 := Lib.hid hF
          clear hF e27_12
          refine wpAnyH_done (by kernel_rfl) ?_ _
          rw [HF13.out, HF12.out, HF11.out, HF10.out, HF9.out, HF8.out, HF7.out, HF6.out, HF5.out, HF4.out, HF3.out, HF2.out, HF1.out, HA.out]
          simp only [Act.put, List.setIfInBounds_toArray, List.set_cons_succ, List.set_cons_zero]
          clear HF13 HF12 HF11 HF10 HF9 HF8 HF7 HF6 HF5 HF4 HF3 HF2 HF1 HA z13 z12 z11 z10 z9 z8 z7 z6 z5 z4 z3 z2 z1 z0 
          go_wp2
          go_roundw
          case rel => exact ⟨j + 2, by omega, by omega, by go_num, by rw [HE.out, HST.out, decide_eq_true HH.out]; rfl, HQ.out.trans ((Qt.refl wr).drew.trans q5)⟩
          case measure => simp [intOf]; omega
        · have g0 : decide (0 ≤ ord a x) = true := decide_eq_true (by omega)
          have HH := Lib.hid h0
          go_wp2
          clear c5 h0
          refine wp_region_held (S := (fun u => u.rangeAt B 0 (ndc n ++ [.slice (some ⟨b, off, none⟩) ks.length c, av]) ∧ u.rangeAt b (off + j * 7) ca ∧ u.rangeAt b (off + (j + 2) * 7) cc)) (by kernel_rfl) ?_
          change wpAnyH _ _ _ _ _ _ _ _ (World.drew _)
          refine genT fun F0 hA => ?_
          have z0 : F0.tmps.size = 29 := by rw [hA]; rfl
          have e1_0 : F0.eval (.tmp 1) = .pointer (some ⟨B, 0, none⟩) := by rw [hA]; rfl
          have e3_0 : F0.eval (.tmp 3) = .int .i64 ((j : Int) + 2) := by rw [hA]; rfl
          have HA := Lib.hid hA
          clear hA
          have HS := Lib.hid (show World.rangeAt wr.drew _ _ _ ∧ World.rangeAt wr.drew _ _ _ ∧ World.rangeAt wr.drew _ _ _ from ⟨(show Blk wr.drew B _ _ from HBX.out).range 0 (ndc n ++ [.slice (some ⟨b, off, none⟩) ks.length c, av]) rfl, HRA.out, HRC.out⟩)
          refine tkT (i := 0) (oi := _) (v := .pointer (some ⟨B, 5, none⟩)) rfl (by kernel_rfl) (by kernel_rfl) (by kernel_rfl) (fun _ _ _ h => h) HS.out (wantedT rfl) (fun w _ => faT rfl e1_0 (by go_simp)) ?_
          intro F1 hF
          replace hF : F1 = F0.put (some 16) (.pointer (some ⟨B, 5, none⟩)) := hF
          have z1 : F1.tmps.size = 29 := by rw [hF]; simpa [Act.put] using z0
          have e1_1 := (show F1.eval (.tmp 1) = F0.eval (.tmp 1) by rw [hF]; exact evO (by decide)).trans e1_0
          have e3_1 := (show F1.eval (.tmp 3) = F0.eval (.tmp 3) by rw [hF]; exact evO (by decide)).trans e3_0
          have e16_1 : F1.eval (.tmp 16) = .pointer (some ⟨B, 5, none⟩) := by rw [hF]; exact evS (by rw [z0]; decide)
          have HF1 := Lib.hid hF
          clear hF e1_0 e3_0
          refine tkT (i := 1) (oi := _) (v := .slice (some ⟨b, off, none⟩) ks.length c) rfl (by kernel_rfl) (by kernel_rfl) (by kernel_rfl) (fun _ _ _ h => h) HS.out (wantedT rfl) (fun w hs => by have c1 := hs.1 5 (.slice (some ⟨b, off, none⟩) ks.length c) rfl; simp only [Nat.zero_add] at c1; exact ldT rfl e16_1 (by go_simp)) ?_
          intro F2 hF
          replace hF : F2 = F1.put (some 17) (.slice (some ⟨b, off, none⟩) ks.length c) := hF
          have z2 : F2.tmps.size = 29 := by rw [hF]; simpa [Act.put] using z1
          have e1_2 := (show F2.eval (.tmp 1) = F1.eval (.tmp 1) by rw [hF]; exact evO (by decide)).trans e1_1
          have e3_2 := (show F2.eval (.tmp 3) = F1.eval (.tmp 3) by rw [hF]; exact evO (by decide)).trans e3_1
          have e17_2 : F2.eval (.tmp 17) = .slice (some ⟨b, off, none⟩) ks.length c := by rw [hF]; exact evS (by rw [z1]; decide)
          have HF2 := Lib.hid hF
          clear hF e1_1 e3_1 e16_1
          refine tkT (i := 2) (oi := _) (v := .int .i64 ((j : Int) + 2)) rfl (by kernel_rfl) (by kernel_rfl) (by kernel_rfl) (fun _ _ _ h => h) HS.out (wantedT rfl) (fun w _ => mvT rfl e3_2 w) ?_
          intro F3 hF
          replace hF : F3 = F2.put (some 18) (.int .i64 ((j : Int) + 2)) := hF
          have z3 : F3.tmps.size = 29 := by rw [hF]; simpa [Act.put] using z2
          have e1_3 := (show F3.eval (.tmp 1) = F2.eval (.tmp 1) by rw [hF]; exact evO (by decide)).trans e1_2
          have e3_3 := (show F3.eval (.tmp 3) = F2.eval (.tmp 3) by rw [hF]; exact evO (by decide)).trans e3_2
          have e17_3 := (show F3.eval (.tmp 17) = F2.eval (.tmp 17) by rw [hF]; exact evO (by decide)).trans e17_2
          have e18_3 : F3.eval (.tmp 18) = .int .i64 ((j : Int) + 2) := by rw [hF]; exact evS (by rw [z2]; decide)
          have HF3 := Lib.hid hF
          clear hF e1_2 e3_2 e17_2
          refine tkT (i := 3) (oi := _) (v := .int .i64 (j : Int)) rfl (by kernel_rfl) (by kernel_rfl) (by kernel_rfl) (fun _ _ _ h => h) HS.out (wantedT rfl) (fun w hs => boT rfl e18_3 rfl (by go_simp) (by go_simp; first | done | (rw [IntKind.wrap_i64]; omega) | go_num)) ?_
          intro F4 hF
          replace hF : F4 = F3.put (some 19) (.int .i64 (j : Int)) := hF
          have z4 : F4.tmps.size = 29 := by rw [hF]; simpa [Act.put] using z3
          have e1_4 := (show F4.eval (.tmp 1) = F3.eval (.tmp 1) by rw [hF]; exact evO (by decide)).trans e1_3
          have e3_4 := (show F4.eval (.tmp 3) = F3.eval (.tmp 3) by rw [hF]; exact evO (by decide)).trans e3_3
          have e17_4 := (show F4.eval (.tmp 17) = F3.eval (.tmp 17) by rw [hF]; exact evO (by decide)).trans e17_3
          have e19_4 : F4.eval (.tmp 19) = .int .i64 (j : Int) := by rw [hF]; exact evS (by rw [z3]; decide)
          have HF4 := Lib.hid hF
          clear hF e1_3 e3_3 e17_3 e18_3
          refine tkT (i := 4) (oi := _) (v := .pointer (some ⟨b, off + j * 7, none⟩)) rfl (by kernel_rfl) (by kernel_rfl) (by kernel_rfl) (fun _ _ _ h => h) HS.out (wantedT rfl) (fun w _ => iaT rfl e17_4 e19_4 (by have f1 : ¬ ks.length ≤ j := (by omega); go_simp)) ?_
          intro F5 hF
          replace hF : F5 = F4.put (some 20) (.pointer (some ⟨b, off + j * 7, none⟩)) := hF
          have z5 : F5.tmps.size = 29 := by rw [hF]; simpa [Act.put] using z4
          have e1_5 := (show F5.eval (.tmp 1) = F4.eval (.tmp 1) by rw [hF]; exact evO (by decide)).trans e1_4
          have e3_5 := (show F5.eval (.tmp 3) = F4.eval (.tmp 3) by rw [hF]; exact evO (by decide)).trans e3_4
          have e20_5 : F5.eval (.tmp 20) = .pointer (some ⟨b, off + j * 7, none⟩) := by rw [hF]; exact evS (by rw [z4]; decide)
          have HF5 := Lib.hid hF
          clear hF e1_4 e3_4 e17_4 e19_4
          refine tkT (i := 5) (oi := _) (v := .agg ca.toArray) rfl (by kernel_rfl) (by kernel_rfl) (by kernel_rfl) (fun _ _ _ h => h) HS.out (wantedT rfl) (fun w hs => lrT rfl e20_5 hs.2.1 (d := .struct gs) HGS.out rfl (by rw [a7]; kernel_rfl)) ?_
          intro F6 hF
          replace hF : F6 = F5.put (some 21) (.agg ca.toArray) := hF
          have z6 : F6.tmps.size = 29 := by rw [hF]; simpa [Act.put] using z5
          have e1_6 := (show F6.eval (.tmp 1) = F5.eval (.tmp 1) by rw [hF]; exact evO (by decide)).trans e1_5
          have e3_6 := (show F6.eval (.tmp 3) = F5.eval (.tmp 3) by rw [hF]; exact evO (by decide)).trans e3_5
          have e21_6 : F6.eval (.tmp 21) = .agg ca.toArray := by rw [hF]; exact evS (by rw [z5]; decide)
          have HF6 := Lib.hid hF
          clear hF e1_5 e3_5 e20_5
          refine tkT (i := 6) (oi := _) (v := .pointer (some ⟨B, 5, none⟩)) rfl (by kernel_rfl) (by kernel_rfl) (by kernel_rfl) (fun _ _ _ h => h) HS.out (wantedT rfl) (fun w _ => faT rfl e1_6 (by go_simp)) ?_
          intro F7 hF
          replace hF : F7 = F6.put (some 22) (.pointer (some ⟨B, 5, none⟩)) := hF
          have z7 : F7.tmps.size = 29 := by rw [hF]; simpa [Act.put] using z6
          have e3_7 := (show F7.eval (.tmp 3) = F6.eval (.tmp 3) by rw [hF]; exact evO (by decide)).trans e3_6
          have e21_7 := (show F7.eval (.tmp 21) = F6.eval (.tmp 21) by rw [hF]; exact evO (by decide)).trans e21_6
          have e22_7 : F7.eval (.tmp 22) = .pointer (some ⟨B, 5, none⟩) := by rw [hF]; exact evS (by rw [z6]; decide)
          have HF7 := Lib.hid hF
          clear hF e1_6 e3_6 e21_6
          refine tkT (i := 7) (oi := _) (v := .slice (some ⟨b, off, none⟩) ks.length c) rfl (by kernel_rfl) (by kernel_rfl) (by kernel_rfl) (fun _ _ _ h => h) HS.out (wantedT rfl) (fun w hs => by have c1 := hs.1 5 (.slice (some ⟨b, off, none⟩) ks.length c) rfl; simp only [Nat.zero_add] at c1; exact ldT rfl e22_7 (by go_simp)) ?_
          intro F8 hF
          replace hF : F8 = F7.put (some 23) (.slice (some ⟨b, off, none⟩) ks.length c) := hF
          have z8 : F8.tmps.size = 29 := by rw [hF]; simpa [Act.put] using z7
          have e3_8 := (show F8.eval (.tmp 3) = F7.eval (.tmp 3) by rw [hF]; exact evO (by decide)).trans e3_7
          have e21_8 := (show F8.eval (.tmp 21) = F7.eval (.tmp 21) by rw [hF]; exact evO (by decide)).trans e21_7
          have e23_8 : F8.eval (.tmp 23) = .slice (some ⟨b, off, none⟩) ks.length c := by rw [hF]; exact evS (by rw [z7]; decide)
          have HF8 := Lib.hid hF
          clear hF e3_7 e21_7 e22_7
          refine tkT (i := 8) (oi := _) (v := .int .i64 ((j : Int) + 2)) rfl (by kernel_rfl) (by kernel_rfl) (by kernel_rfl) (fun _ _ _ h => h) HS.out (wantedT rfl) (fun w _ => mvT rfl e3_8 w) ?_
          intro F9 hF
          replace hF : F9 = F8.put (some 24) (.int .i64 ((j : Int) + 2)) := hF
          have z9 : F9.tmps.size = 29 := by rw [hF]; simpa [Act.put] using z8
          have e21_9 := (show F9.eval (.tmp 21) = F8.eval (.tmp 21) by rw [hF]; exact evO (by decide)).trans e21_8
          have e23_9 := (show F9.eval (.tmp 23) = F8.eval (.tmp 23) by rw [hF]; exact evO (by decide)).trans e23_8
          have e24_9 : F9.eval (.tmp 24) = .int .i64 ((j : Int) + 2) := by rw [hF]; exact evS (by rw [z8]; decide)
          have HF9 := Lib.hid hF
          clear hF e3_8 e21_8 e23_8
          refine tkT (i := 9) (oi := _) (v := .pointer (some ⟨b, off + (j + 2) * 7, none⟩)) rfl (by kernel_rfl) (by kernel_rfl) (by kernel_rfl) (fun _ _ _ h => h) HS.out (wantedT rfl) (fun w _ => iaT rfl e23_9 e24_9 (by have f2 : (0 : Int) ≤ (j : Int) + 2 := (by omega); have f3 : ((j : Int) + 2).toNat = j + 2 := (by omega); have f4 : (j : Int) + 2 < (ks.length : Int) := (by omega); go_simp)) ?_
          intro F10 hF
          replace hF : F10 = F9.put (some 25) (.pointer (some ⟨b, off + (j + 2) * 7, none⟩)) := hF
          have z10 : F10.tmps.size = 29 := by rw [hF]; simpa [Act.put] using z9
          have e21_10 := (show F10.eval (.tmp 21) = F9.eval (.tmp 21) by rw [hF]; exact evO (by decide)).trans e21_9
          have e25_10 : F10.eval (.tmp 25) = .pointer (some ⟨b, off + (j + 2) * 7, none⟩) := by rw [hF]; exact evS (by rw [z9]; decide)
          have HF10 := Lib.hid hF
          clear hF e21_9 e23_9 e24_9
          refine tkT (i := 10) (oi := _) (v := .agg cc.toArray) rfl (by kernel_rfl) (by kernel_rfl) (by kernel_rfl) (fun _ _ _ h => h) HS.out (wantedT rfl) (fun w hs => lrT rfl e25_10 hs.2.2 (d := .struct gs) HGS.out rfl (by rw [c7]; kernel_rfl)) ?_
          intro F11 hF
          replace hF : F11 = F10.put (some 26) (.agg cc.toArray) := hF
          have z11 : F11.tmps.size = 29 := by rw [hF]; simpa [Act.put] using z10
          have e21_11 := (show F11.eval (.tmp 21) = F10.eval (.tmp 21) by rw [hF]; exact evO (by decide)).trans e21_10
          have e26_11 : F11.eval (.tmp 26) = .agg cc.toArray := by rw [hF]; exact evS (by rw [z10]; decide)
          have HF11 := Lib.hid hF
          clear hF e21_10 e25_10
          refine aloneT (i := 11) (oi := _) rfl (by kernel_rfl) (wantedT rfl) ?_
          refine wpCall (clT (f := 43) (args := #[.agg ca.toArray, .agg cc.toArray]) rfl (by simp only [List.map_toArray, List.map_cons, List.map_nil, e21_11, e26_11] <;> rfl) (fun args w => by kernel_rfl)) (fun v w' => v = .int .i64 (ord a x) ∧ Qt wr.drew w') ((HC.out _ (Qt.refl wr).drew).mono (by rintro e w' ⟨rfl, q⟩; exact ⟨_, rfl, rfl, q⟩)) ?_
          rintro v w5 ⟨rfl, q5⟩
          refine ⟨And.intro (rangeQt HS.out.1 q5) (And.intro (rangeQt HS.out.2.1 q5) (rangeQt HS.out.2.2 q5)), genT fun F12 hF => ?_⟩
          have HS := Lib.hid (And.intro (rangeQt HS.out.1 q5) (And.intro (rangeQt HS.out.2.1 q5) (rangeQt HS.out.2.2 q5)))
          replace hF : F12 = F11.put (some 27) (.int .i64 (ord a x)) := hF
          have z12 : F12.tmps.size = 29 := by rw [hF]; simpa [Act.put] using z11
          have e27_12 : F12.eval (.tmp 27) = .int .i64 (ord a x) := by rw [hF]; exact evS (by rw [z11]; decide)
          have HF12 := Lib.hid hF
          clear hF e21_11 e26_11
          refine tkT (i := 12) (oi := _) (v := .bool true) rfl (by kernel_rfl) (by kernel_rfl) (by kernel_rfl) (fun _ _ _ h => h) HS.out (wantedT rfl) (fun w hs => boT rfl e27_12 rfl (by go_simp) (by go_simp)) ?_
          intro F13 hF
          replace hF : F13 = F12.put (some 28) (.bool true) := hF
          have z13 : F13.tmps.size = 29 := by rw [hF]; simpa [Act.put] using z12
          have HF13 := Lib.hid hF
          clear hF e27_12
          refine wpAnyH_done (by kernel_rfl) ?_ _
          rw [HF13.out, HF12.out, HF11.out, HF10.out, HF9.out, HF8.out, HF7.out, HF6.out, HF5.out, HF4.out, HF3.out, HF2.out, HF1.out, HA.out]
          simp only [Act.put, List.setIfInBounds_toArray, List.set_cons_succ, List.set_cons_zero]
          clear HF13 HF12 HF11 HF10 HF9 HF8 HF7 HF6 HF5 HF4 HF3 HF2 HF1 HA z13 z12 z11 z10 z9 z8 z7 z6 z5 z4 z3 z2 z1 z0 
          go_wp2
          go_ret
          exact ⟨by rw [HE.out, HST.out, decide_eq_false (by have := HH.out; omega : ¬ ord a x < 0)]; rfl, HQ0.out.trans (HQ.out.trans ((Qt.refl wr).drew.trans q5))⟩
      · have hr := rise_end (ks := ks) (j := j) (by omega)
        have HR := Lib.hid hr
        clear hr
        go_wp2
        go_ret
        exact ⟨by rw [HE.out, HR.out]; rfl, HQ0.out.trans HQ.out⟩
  · have hri : rising ks = false := by unfold rising; rw [show (ks.length % 2 == 0) = false from by simpa using h2]; rfl
    rw [hri]
    clear hri
    have c5 : (w.alloc (.cells cs.toArray 60)).cell? ⟨w.heap.size, 5, none⟩ = some (.slice A ks.length c) := by rw [World.cell?_alloc_new]; simpa using h5
    have g2 : ((ks.length : Int)).tmod 2 = 1 := by rw [Int.tmod_eq_emod_of_nonneg (by omega)]; omega
    have hq : ∀ o, Qt w (w.alloc o) := fun o => (Qt.refl w).alloc o
    clear h5 hcs
    go_enter Try.func81, Try.ntmps81
    go_wp2
    go_ret
    exact ⟨rfl, hq _⟩
end Go.Proofs.Ytipgpnkdgofdeaa.Tm
