import Derived.Test.YtipgpnkdgofdeaaTC
/-! grow, printed by gengrow.py. -/
namespace Go.Proofs.Ytipgpnkdgofdeaa.Tm
open Go.RowKit
set_option linter.unusedVariables false
set_option linter.unusedSimpArgs false

set_option maxRecDepth 100000 in
set_option maxHeartbeats 1000000 in
theorem grow_good (N : Nat) (ih : ∀ (l : List Nd) (v : Value) (lb : Nat → Prop) (w : World), l.length ≤ N → l.length ≤ 1000000 → Lies w lb v l → (∀ k, lb k → k < w.heap.size) →
      Calls Try.prog 63 #[v] w fun e w' => Qt w w' ∧ (par N l = none ∧ e = .panicked [tnone] ∨ ∃ t r cs rv, par N l = some (t, r) ∧ e = .returned (.tuple #[.agg cs.toArray, rv]) ∧ Br w' (fun k => lb k ∨ w.heap.size ≤ k) cs t ∧ Lies w' lb rv r))
    (n : Nd) (l : List Nd) (v : Value) (lb : Nat → Prop) (w : World) (h : Lies w lb v (n :: l)) (hl : l.length ≤ N) (hm : l.length ≤ 1000000) (hlb : ∀ k, lb k → k < w.heap.size) (hk : 0 ≤ n.f4 ∧ n.f4 ≤ l.length) :
    Calls Try.prog 63 #[v] w fun e w' => Qt w w' ∧ (parsBy (par N) n.f4.toNat l = none ∧ e = .panicked [tnone] ∨ ∃ ks r cs rv, parsBy (par N) n.f4.toNat l = some (ks, r) ∧ e = .returned (.tuple #[.agg cs.toArray, rv]) ∧ Br w' (fun k => lb k ∨ w.heap.size ≤ k) cs (.mk n ks) ∧ Lies w' lb rv r) := by
  obtain ⟨K, hK⟩ : ∃ K : Nat, n.f4 = (K : Int) := ⟨n.f4.toNat, by omega⟩
  have hKl : K ≤ l.length := by omega
  obtain ⟨A, c, rfl⟩ := h.form
  obtain ⟨b, off, rfl, hb, hc, hr⟩ := h.first
  have hbw : b < w.heap.size := hlb b hb
  have c4 : ∀ o, (w.alloc o).cell? ⟨b, off + 4, none⟩ = some (.int .i64 n.f4) := fun o => cell_al (hr 4 _ rfl) (blk_of_cell (hr 4 _ rfl)) o
  obtain ⟨fs, hfs⟩ : ∃ fs, Try.prog.underlying 32 = some (.struct fs) := ⟨_, Try.underlying32⟩
  obtain ⟨gs, hgs⟩ : ∃ fs, Try.prog.underlying 60 = some (.struct fs) := ⟨_, Try.underlying60⟩
  obtain ⟨i0, hi0, hz0, hz1, hz2⟩ := info_parts (P := Try.prog) (e := 60) (z := .agg #[.int .i64 0, .int .i64 0, .int .u64 0, .string ⟨#[]⟩, .int .i64 0, .slice none 0 0, .slice none 0 0]) (size := 7) (bytes := 96) (by kernel_rfl)
  obtain ⟨G, hG⟩ : ∃ G, G = w.heap.size := ⟨_, rfl⟩
  rw [hK] at c4
  simp only [List.length_cons] at h ⊢
  rw [hK, Int.toNat_natCast]
  have HH := Lib.hid h
  have HR := Lib.hid hr
  have HLB := Lib.hid hlb
  have HIH := Lib.hid ih
  have HFS := Lib.hid hfs
  have HGS := Lib.hid hgs
  have HI0 := Lib.hid hi0
  have HZ0 := Lib.hid hz0
  have HZ1 := Lib.hid hz1
  have HZ2 := Lib.hid hz2
  have HK2 := Lib.hid hK
  clear hr hlb ih hfs hgs hi0 hz0 hz1 hz2 h hK
  have g1 : ((l.length : Int) + 1 == 0) = false := by rw [beq_eq_false_iff_ne]; omega
  have g2 : decide ((K : Int) < 0) = false := decide_eq_false (by omega)
  have g3 : decide ((l.length : Int) + 1 ≤ (K : Int)) = false := decide_eq_false (by omega)
  go_enter Try.func63, Try.ntmps63
  go_wp2
  clear g1 g2 g3
  have hb0 : Blk (w.alloc (.cells #[.int .i64 0, .int .i64 0, .int .u64 0, .string ⟨#[]⟩, .int .i64 0, .slice none 0 0, .slice none 0 0] 60)) G 60 [.int .i64 0, .int .i64 0, .int .u64 0, .string ⟨#[]⟩, .int .i64 0, .slice none 0 0, .slice none 0 0] := by rw [hG]; exact heap_alloc_new w _
  have hq0 : Qt w (w.alloc (.cells #[.int .i64 0, .int .i64 0, .int .u64 0, .string ⟨#[]⟩, .int .i64 0, .slice none 0 0, .slice none 0 0] 60)) := (Qt.refl w).alloc _
  rw [← hG]
  clear c4
  have hG1 : w.heap.size ≤ G := by omega
  have hG2 : G ≤ w.heap.size := by omega
  clear hG
  generalize (w.alloc (.cells #[.int .i64 0, .int .i64 0, .int .u64 0, .string ⟨#[]⟩, .int .i64 0, .slice none 0 0, .slice none 0 0] 60)) = w0 at hb0 hq0 ⊢
  have HB0 := Lib.hid (show Blk w0.drew G 60 _ from hb0)
  have HQ0 := Lib.hid hq0
  clear hb0 hq0
  refine wp_region_held (S := (fun w => w.rangeAt b off (ndc n))) (by kernel_rfl) ?_
  change wpAnyH _ _ _ _ _ _ _ _ (World.drew _)
  refine genT fun F0 hA => ?_
  have z0 : F0.tmps.size = 60 := by rw [hA]; rfl
  have e0_0 : F0.eval (.tmp 0) = .slice (some ⟨b, off, none⟩) (l.length + 1) c := by rw [hA]; rfl
  have e2_0 : F0.eval (.tmp 2) = .pointer (some ⟨G, 0, none⟩) := by rw [hA]; rfl
  have HA := Lib.hid hA
  clear hA
  have HS := Lib.hid (rangeQt HR.out HQ0.out.drew)
  refine tkT (i := 0) (oi := _) (v := .slice (some ⟨b, off, none⟩) (l.length + 1) c) rfl (by kernel_rfl) (by kernel_rfl) (by kernel_rfl) (fun _ _ _ h => h) HS.out (wantedT rfl) (fun w _ => mvT rfl e0_0 w) ?_
  intro F1 hF
  replace hF : F1 = F0.put (some 26) (.slice (some ⟨b, off, none⟩) (l.length + 1) c) := hF
  have z1 : F1.tmps.size = 60 := by rw [hF]; simpa [Act.put] using z0
  have e0_1 := (show F1.eval (.tmp 0) = F0.eval (.tmp 0) by rw [hF]; exact evO (by decide)).trans e0_0
  have e2_1 := (show F1.eval (.tmp 2) = F0.eval (.tmp 2) by rw [hF]; exact evO (by decide)).trans e2_0
  have e26_1 : F1.eval (.tmp 26) = .slice (some ⟨b, off, none⟩) (l.length + 1) c := by rw [hF]; exact evS (by rw [z0]; decide)
  have HF1 := Lib.hid hF
  clear hF e0_0 e2_0
  refine tkT (i := 1) (oi := _) (v := .pointer (some ⟨b, off, none⟩)) rfl (by kernel_rfl) (by kernel_rfl) (by kernel_rfl) (fun _ _ _ h => h) HS.out (wantedT rfl) (fun w _ => iaT rfl e26_1 rfl (by go_simp)) ?_
  intro F2 hF
  replace hF : F2 = F1.put (some 27) (.pointer (some ⟨b, off, none⟩)) := hF
  have z2 : F2.tmps.size = 60 := by rw [hF]; simpa [Act.put] using z1
  have e0_2 := (show F2.eval (.tmp 0) = F1.eval (.tmp 0) by rw [hF]; exact evO (by decide)).trans e0_1
  have e2_2 := (show F2.eval (.tmp 2) = F1.eval (.tmp 2) by rw [hF]; exact evO (by decide)).trans e2_1
  have e27_2 : F2.eval (.tmp 27) = .pointer (some ⟨b, off, none⟩) := by rw [hF]; exact evS (by rw [z1]; decide)
  have HF2 := Lib.hid hF
  clear hF e0_1 e2_1 e26_1
  refine tkT (i := 2) (oi := _) (v := .agg (ndc n).toArray) rfl (by kernel_rfl) (by kernel_rfl) (by kernel_rfl) (fun _ _ _ h => h) HS.out (wantedT rfl) (fun w hs => lrT rfl e27_2 hs (d := .struct fs) HFS.out rfl (by kernel_rfl)) ?_
  intro F3 hF
  replace hF : F3 = F2.put (some 28) (.agg (ndc n).toArray) := hF
  have z3 : F3.tmps.size = 60 := by rw [hF]; simpa [Act.put] using z2
  have e0_3 := (show F3.eval (.tmp 0) = F2.eval (.tmp 0) by rw [hF]; exact evO (by decide)).trans e0_2
  have e2_3 := (show F3.eval (.tmp 2) = F2.eval (.tmp 2) by rw [hF]; exact evO (by decide)).trans e2_2
  have e28_3 : F3.eval (.tmp 28) = .agg (ndc n).toArray := by rw [hF]; exact evS (by rw [z2]; decide)
  have HF3 := Lib.hid hF
  clear hF e0_2 e2_2 e27_2
  refine tkT (i := 3) (oi := _) (v := .slice (some ⟨b, off, none⟩) (l.length + 1) c) rfl (by kernel_rfl) (by kernel_rfl) (by kernel_rfl) (fun _ _ _ h => h) HS.out (wantedT rfl) (fun w _ => mvT rfl e0_3 w) ?_
  intro F4 hF
  replace hF : F4 = F3.put (some 29) (.slice (some ⟨b, off, none⟩) (l.length + 1) c) := hF
  have z4 : F4.tmps.size = 60 := by rw [hF]; simpa [Act.put] using z3
  have e2_4 := (show F4.eval (.tmp 2) = F3.eval (.tmp 2) by rw [hF]; exact evO (by decide)).trans e2_3
  have e28_4 := (show F4.eval (.tmp 28) = F3.eval (.tmp 28) by rw [hF]; exact evO (by decide)).trans e28_3
  have e29_4 : F4.eval (.tmp 29) = .slice (some ⟨b, off, none⟩) (l.length + 1) c := by rw [hF]; exact evS (by rw [z3]; decide)
  have HF4 := Lib.hid hF
  clear hF e0_3 e2_3 e28_3
  refine tkT (i := 4) (oi := _) (v := sliced (some ⟨b, off, none⟩) 1 (l.length + 1) c 5) rfl (by kernel_rfl) (by kernel_rfl) (by kernel_rfl) (fun _ _ _ h => h) HS.out (wantedT rfl) (fun w _ => slT (k := .i64) (i := 1) rfl e29_4 rfl (by kernel_rfl) szBr (by decide) (by omega) w) ?_
  intro F5 hF
  replace hF : F5 = F4.put (some 30) (sliced (some ⟨b, off, none⟩) 1 (l.length + 1) c 5) := hF
  have z5 : F5.tmps.size = 60 := by rw [hF]; simpa [Act.put] using z4
  have e2_5 := (show F5.eval (.tmp 2) = F4.eval (.tmp 2) by rw [hF]; exact evO (by decide)).trans e2_4
  have e28_5 := (show F5.eval (.tmp 28) = F4.eval (.tmp 28) by rw [hF]; exact evO (by decide)).trans e28_4
  have e30_5 : F5.eval (.tmp 30) = sliced (some ⟨b, off, none⟩) 1 (l.length + 1) c 5 := by rw [hF]; exact evS (by rw [z4]; decide)
  have HF5 := Lib.hid hF
  clear hF e2_4 e28_4 e29_4
  refine tkT (i := 5) (oi := _) (v := .pointer (some ⟨G, 0, none⟩)) rfl (by kernel_rfl) (by kernel_rfl) (by kernel_rfl) (fun _ _ _ h => h) HS.out (wantedT rfl) (fun w _ => faT rfl e2_5 (by go_simp)) ?_
  intro F6 hF
  replace hF : F6 = F5.put (some 31) (.pointer (some ⟨G, 0, none⟩)) := hF
  have z6 : F6.tmps.size = 60 := by rw [hF]; simpa [Act.put] using z5
  have e28_6 := (show F6.eval (.tmp 28) = F5.eval (.tmp 28) by rw [hF]; exact evO (by decide)).trans e28_5
  have e30_6 := (show F6.eval (.tmp 30) = F5.eval (.tmp 30) by rw [hF]; exact evO (by decide)).trans e30_5
  have e31_6 : F6.eval (.tmp 31) = .pointer (some ⟨G, 0, none⟩) := by rw [hF]; exact evS (by rw [z5]; decide)
  have HF6 := Lib.hid hF
  clear hF e2_5 e28_5 e30_5
  refine aloneT (i := 6) (oi := _) rfl (by kernel_rfl) (wantedT rfl) ?_
  refine wpStM rfl e31_6 e28_6 HB0.out (by show 5 ≤ 7; decide) (by kernel_rfl) (ndc_one n) ?_
  intro w1 og1 hz1 hb1
  have HOG1 := Lib.hid og1
  have HB1 := Lib.hid (show Blk w1 G 60 (ndc n ++ [.slice none 0 0, .slice none 0 0]) from hb1)
  have HR1 := Lib.hid (rangeOg HS.out og1 (by omega))
  clear og1 hb1
  refine ⟨HR1.out, genT fun F7 hF => ?_⟩
  have HS := Lib.hid (HR1.out)
  replace hF : F7 = F6.put none (undef) := hF
  have z7 : F7.tmps.size = 60 := by rw [hF]; simpa [Act.put] using z6
  have e30_7 := (show F7.eval (.tmp 30) = F6.eval (.tmp 30) by rw [hF]; exact rfl).trans e30_6
  have HF7 := Lib.hid hF
  clear hF e28_6 e30_6 e31_6
  refine tkT (i := 7) (oi := _) (v := sliced (some ⟨b, off, none⟩) 1 (l.length + 1) c 5) rfl (by kernel_rfl) (by kernel_rfl) (by kernel_rfl) (fun _ _ _ h => h) HS.out (wantedT rfl) (fun w _ => asT rfl e30_7 w) ?_
  intro F8 hF
  replace hF : F8 = F7.put (some 3) (sliced (some ⟨b, off, none⟩) 1 (l.length + 1) c 5) := hF
  have z8 : F8.tmps.size = 60 := by rw [hF]; simpa [Act.put] using z7
  have HF8 := Lib.hid hF
  clear hF e30_7
  refine wpAnyH_done (by kernel_rfl) ?_ _
  rw [HF8.out, HF7.out, HF6.out, HF5.out, HF4.out, HF3.out, HF2.out, HF1.out, HA.out]
  simp only [Act.put, List.setIfInBounds_toArray, List.set_cons_succ, List.set_cons_zero]
  clear HF8 HF7 HF6 HF5 HF4 HF3 HF2 HF1 HA z8 z7 z6 z5 z4 z3 z2 z1 z0 
  have hq1 : Qt w w1 := HOG1.out.qt HQ0.out.drew (by omega)
  have HQ1 := Lib.hid hq1
  have HT1 := Lib.hid (HH.out.tail.qt hq1)
  have c4' : w1.cell? ⟨b, off + 4, none⟩ = some (.int .i64 (K : Int)) := by rw [← HK2.out]; exact HR1.out 4 _ rfl
  have hgl : b < G := by omega
  clear hq1 HB0 HOG1 HR HS
  generalize sliced (some ⟨b, off, none⟩) 1 (l.length + 1) c 5 = tv at HT1 ⊢
  go_wp2
  have hok : ∀ k, lb k → k < G := fun k hk => Nat.lt_of_lt_of_le (HLB.out k hk) hG1
  have HOK := Lib.hid hok
  clear hok
  go_loopw [36, 3] (fun i r wr => ∃ (j : Nat) (ks : List Tr) (rs : List Nd) (kv : Value), j ≤ K ∧ i = .int .i64 j ∧ parsBy (par N) j l = some (ks, rs) ∧ Lies wr lb r rs ∧ KidsIn wr (G + 1) (fun k => lb k ∨ G < k) kv ks ∧ Blk wr G 60 (ndc n ++ [kv, .slice none 0 0]) ∧ Qt w wr) (fun i _ _ => K - (intOf i).toNat)
  case atStart => exact ⟨0, [], l, .slice none 0 0, by omega, rfl, rfl, HT1.out, KidsIn.start _ _ _, HB1.out, HQ1.out⟩
  case round =>
    obtain ⟨j, ks, rs, kv, hj, rfl, hp, hli, hki, hbk, hq⟩ := hrel
    obtain ⟨hfl, hkl⟩ := parsBy_flat (par_flat N) _ _ _ _ hp
    subst hkl
    have hrl : rs.length ≤ l.length := by rw [hfl]; simp
    obtain ⟨css, h1, h2, h3, h4, h5⟩ := hki
    obtain ⟨ka, kc, rfl⟩ := h3.slice
    obtain ⟨ra, rc, rfl⟩ := hli.form
    have hGr : G < _ := hbk.lt
    have HP := Lib.hid hp
    have HFL := Lib.hid hfl
    have HLI := Lib.hid hli
    have HBK := Lib.hid hbk
    have HQ := Lib.hid hq
    have HC2 := Lib.hid h2
    have HC3 := Lib.hid h3
    have HC4 := Lib.hid h4
    have HC5 := Lib.hid h5
    clear hp hfl hli hbk hq h2 h3 h4 h5 HQ1 HT1 HB1 HR1 c4'
    by_cases hlt : ks.length < K
    · go_wp2_with fail
      have HCALL := HIH.out rs _ lb (wr.alloc (.cells #[.int .i64 0, .int .i64 0, .int .u64 0, .string ⟨#[]⟩, .int .i64 0, .slice none 0 0, .slice none 0 0] 60)) (by omega) (by omega) (HLI.out.qt ((Qt.refl wr).alloc _)) (fun k hk => by have := HOK.out k hk; simp; omega)
      refine HCALL.mono ?_
      clear HCALL
      rintro e w2 ⟨q2, ⟨hn, rfl⟩ | ⟨t, r2, cs, rv2, hn, rfl, hbr, hl2⟩⟩
      · refine ⟨rfl, (HQ.out.alloc _).trans q2, .inl ⟨parsBy_none HP.out hlt hn, rfl⟩⟩
      · have hgt : wr.heap.size < w2.heap.size := by have := q2.size; simp at this; omega
        have hbt : Blk w2 wr.heap.size 60 [.int .i64 0, .int .i64 0, .int .u64 0, .string ⟨#[]⟩, .int .i64 0, .slice none 0 0, .slice none 0 0] := (show Blk (wr.alloc (.cells #[.int .i64 0, .int .i64 0, .int .u64 0, .string ⟨#[]⟩, .int .i64 0, .slice none 0 0, .slice none 0 0] 60)) _ _ _ from heap_alloc_new wr _).qt q2
        have q02 : Qt wr w2 := ((Qt.refl wr).alloc _).trans q2
        have HBT := Lib.hid hbt
        have HBR := Lib.hid hbr
        have HL2 := Lib.hid hl2
        have HN := Lib.hid hn
        have HQ02 := Lib.hid q02
        have hcl := hbr.len
        clear hbt hbr hl2 hn q02 q2
        go_wp2_with (first
          | (refine armSt rfl 60 (.tmp 4) (.tmp 41) rfl wr.heap.size cs rfl rfl HBT.out (by rw [hcl]; kernel_rfl) (by rw [hcl]; rfl) HBR.out.one ?_; intro w3 og3 hz3 hb3; (have q3 := og3.qt HQ02.out (Nat.le_refl _)); (have hG3 := HBK.out.qt q3); (have c5 : w3.cell? ⟨G, 5, none⟩ = some (.slice ka ks.length kc) := hG3.cell 5); (have HB3 := Lib.hid hb3); (have HQ3 := Lib.hid q3); (have HOG3 := Lib.hid og3); (have HG3 := Lib.hid hG3); clear og3 hb3 q3 hG3)
          | (refine armLd rfl 60 (.tmp 4) rfl wr.heap.size rfl HB3.out (.struct gs) HGS.out rfl (by rw [hcl]; kernel_rfl) ?_)
          | (refine armBs rfl 58 60 (.tmp 45) rfl cs rfl hcl (by kernel_rfl) i0 HI0.out _ HZ0.out HZ1.out ?_; intro w4 hw4; (have HW4 := Lib.hid hw4); (have HQ34 := Lib.hid (show Qt w3 w4 by rw [hw4]; exact (Qt.refl w3).alloc _)); clear hw4)
          | (at_builtin; go_must (refine wp_appQ rfl (.tmp 44) (.tmp 46) 58 58 rfl (G + 1) 60 i0 _ 7 96 (by kernel_rfl) HI0.out HZ0.out HZ1.out HZ2.out rfl _ ks.length css.flatten rfl (HC3.out.below (HQ3.out.trans HQ34.out)) _ 1 cs rfl (Src.ofRd (e' := 60) (by kernel_rfl) (rdBr HW4.out) (by rw [hcl]) (by decide) HBR.out.one) (by unfold maxLen; omega) (by omega) (by have := HQ34.out.size; omega) ?_); intro v5 w5 ho5 hg5 hr5; (have hne5 : some G ≠ (Value.slice ka ks.length kc).ownBlock := fun e => by have := (HC3.out.lt G e.symm).1; omega); (have hG5 := (HG3.out.qt HQ34.out).grown hg5 hne5); (have c5' : w5.cell? ⟨G, 5, none⟩ = some (.slice ka ks.length kc) := hG5.cell 5); (have f5 := hG5.frozen 5); obtain ⟨a5, cc5, rfl⟩ := ho5.slice; (have HO5 := Lib.hid ho5); (have HG5 := Lib.hid hg5); (have HR5 := Lib.hid hr5); (have HGB5 := Lib.hid hG5); clear ho5 hg5 hr5 hG5 hne5))
        go_roundw
        case rel =>
          have hq4 := HQ3.out.trans HQ34.out
          have hki4 : ∀ (i : Nat) (k : Tr), ks[i]? = some k → ∃ cs, css[i]? = some cs ∧ Br w4 (fun b => (lb b ∨ G < b) ∧ some b ≠ (Value.slice ka ks.length kc).ownBlock) cs k := fun i k hk => by
            obtain ⟨cs, e, hb⟩ := HC5.out i k hk
            exact ⟨cs, e, hb.qt hq4⟩
          have hbr4 : Br w4 (fun k => lb k ∨ (wr.alloc (.cells #[.int .i64 0, .int .i64 0, .int .u64 0, .string ⟨#[]⟩, .int .i64 0, .slice none 0 0, .slice none 0 0] 60)).heap.size ≤ k) cs t := by
            refine (HBR.out.move fun k hk ho => HOG3.out.block k hk (fun e => ?_)).qt HQ34.out
            cases e
            rcases ho with ho | ho
            · have := HOK.out _ ho; omega
            · simp at ho; omega
          have hb5 : Below (G + 1) w4 w5 := ⟨HG5.out.os, HG5.out.tape, HG5.out.output, HG5.out.size, fun k hk => HG5.out.block k (by have := HGB5.out.lt; have := hq4.size; omega) (fun e => by have := (HC3.out.lt k e.symm).1; omega)⟩
          have hsn := KidsIn.snoc (ok := fun k => lb k ∨ G < k) h1 HC2.out HC4.out hki4 hbr4 (fun k _ ho => ⟨by
              rcases ho with ho | ho
              · exact .inl ho
              · right; simp at ho; omega, fun e => by
              have := HC3.out.lt k e.symm
              rcases ho with ho | ho
              · have := HOK.out _ ho; omega
              · simp at ho; omega⟩) HO5.out HG5.out HR5.out (fun g hg => .inr (by have := hq4.size; omega))
          have og6 : Og G w5 (w5.setCell ⟨G, 5, none⟩ (.slice a5 (ks.length + 1) cc5)) := (Og.refl G w5).setCell (.inl rfl) _
          refine ⟨ks.length + 1, ks ++ [t], r2, _, by omega, by go_num, parsBy_next HP.out HN.out, ?_, by simpa using hsn.og og6 (fun h => by
              rcases h with h | h
              · have := HOK.out _ h; omega
              · omega), HGB5.out.set 5 _, ?_⟩
          · refine HL2.out.move fun k hk ho => ?_
            have hkG := HOK.out _ ho
            have e1 := HOG3.out.block k hk (fun e => by cases e; omega)
            have e2 := HQ34.out.block k (Nat.lt_of_lt_of_le hk (by omega))
            have e3 := hb5.block k (by omega)
            have e4 := og6.block k (by have := HGB5.out.lt; omega) (fun e => by cases e; omega)
            rw [e4, e3, e2, e1]
          · refine og6.qt (Below.trans (HQ.out.trans hq4) (Below.mono (B := G + 1) hb5 (by omega))) hG1
        case measure => simp [intOf]; omega
    · obtain rfl : ks.length = K := by omega
      have hfl := HFL.out
      have hlen : l.length = (flats ks).length + rs.length := by rw [hfl, List.length_append]
      have hlen1 : l.length ≤ (flats ks).length + rs.length := by omega
      have hlen2 : (flats ks).length + rs.length ≤ l.length := by omega
      clear hlen
      have hflat : (Tr.mk n ks).flat.length = (flats ks).length + 1 := by simp [Tr.flat]
      have hwhole : n :: l = (Tr.mk n ks).flat ++ rs := by rw [hfl, Tr.flat]; rfl
      have htk := (HH.out.qt HQ.out).take hwhole
      obtain ⟨A2, c2, e2⟩ := htk.form
      rw [e2] at htk
      rw [hflat] at htk e2
      have c6 : wr.cell? ⟨G, 6, none⟩ = some (.slice none 0 0) := HBK.out.cell 6
      have f6 := HBK.out.frozen 6
      have HTK := Lib.hid htk
      have HE2 := Lib.hid e2
      clear hfl htk e2
      go_wp2_with (first
        | (refine armSl rfl 22 (.tmp 50) (.tmp 55) rfl (some ⟨b, off, none⟩) (l.length + 1) c 5 rfl .i64 _ rfl (by kernel_rfl) szBr (by omega) (by omega) (.slice A2 ((flats ks).length + 1) c2) (by rw [show ((l.length : Int) + 1 - (rs.length : Int)).toNat = (flats ks).length + 1 from by omega]; exact HE2.out) ?_)
        | (refine armLd rfl 60 (.tmp 2) rfl G rfl (cs := ndc n ++ [.slice ka ks.length kc, .slice A2 ((flats ks).length + 1) c2]) (HBK.out.set 6 _) (.struct gs) HGS.out rfl (by kernel_rfl) ?_)
        | (refine armSt rfl 60 (.tmp 2) (.tmp 58) rfl G (ndc n ++ [.slice ka ks.length kc, .slice A2 ((flats ks).length + 1) c2]) rfl rfl (t := 60) (old := ndc n ++ [.slice ka ks.length kc, .slice A2 ((flats ks).length + 1) c2]) (HBK.out.set 6 _) (by kernel_rfl) rfl (by intro u hu; rcases List.mem_append.1 hu with h | h; exact ndc_one n u h; simp only [List.mem_cons, List.not_mem_nil, or_false] at h; rcases h with rfl | rfl <;> rfl) ?_; intro w7 og7 hz7 hb7; (have HOG7 := Lib.hid og7); (have HB7 := Lib.hid hb7); clear og7 hb7))
      have og7 : Og G wr w7 := ((Og.refl G wr).setCell (.inl rfl) _).trans HOG7.out
      have hkok : ∀ k, k < wr.heap.size → (lb k ∨ G < k) → w7.heap[k]? = wr.heap[k]? := fun k hk ho => og7.block k hk (fun e => by
        cases e
        rcases ho with ho | ho
        · have := HOK.out _ ho; omega
        · omega)
      have hki7 : KidsIn w7 (G + 1) (fun k => lb k ∨ G < k) (.slice ka ks.length kc) ks := KidsIn.move ⟨css, h1, HC2.out, HC3.out, HC4.out, HC5.out⟩ og7.size hkok
      have hbr7 : Br w7 (fun k => lb k ∨ w.heap.size ≤ k) (ndc n ++ [.slice ka ks.length kc, .slice A2 ((flats ks).length + 1) c2]) (.mk n ks) :=
        (hki7.br ((HTK.out.mono (fun k hk => .inl hk)).move hkok)).mono (fun k hk => hk.imp id (fun h => by omega))
      refine bodyPost_ret (v := .tuple #[.agg (ndc n ++ [Value.slice ka ks.length kc, Value.slice A2 ((flats ks).length + 1) c2]).toArray, .slice ra rs.length rc]) (results_ct rfl _ _ G (.struct gs) rfl HB7.out _ rfl HGS.out rfl (by kernel_rfl)) rfl ?_
      refine ⟨og7.qt HQ.out hG1, Or.inr ⟨ks, rs, HP.out, ndc n ++ [.slice ka ks.length kc, .slice A2 ((flats ks).length + 1) c2], .slice ra rs.length rc, rfl, hbr7, HLI.out.move fun k hk ho => hkok k hk (.inl ho)⟩⟩

/-- grow reads a tree, or throws that there is none. -/
theorem grow_any : ∀ (N : Nat) (l : List Nd) (v : Value) (lb : Nat → Prop) (w : World), l.length ≤ N → l.length ≤ 1000000 → Lies w lb v l → (∀ k, lb k → k < w.heap.size) →
      Calls Try.prog 63 #[v] w fun e w' => Qt w w' ∧ (par N l = none ∧ e = .panicked [tnone] ∨ ∃ t r cs rv, par N l = some (t, r) ∧ e = .returned (.tuple #[.agg cs.toArray, rv]) ∧ Br w' (fun k => lb k ∨ w.heap.size ≤ k) cs t ∧ Lies w' lb rv r) := by
  intro N
  induction N with
  | zero =>
    intro l v lb w hl hm h hlb
    obtain rfl : l = [] := List.length_eq_zero_iff.1 (by omega)
    exact (grow_nil 0 v lb w h).mono fun e w' ⟨he, q⟩ => ⟨q, .inl ⟨rfl, he⟩⟩
  | succ N ih =>
    intro l v lb w hl hm h hlb
    cases l with
    | nil => exact (grow_nil 0 v lb w h).mono fun e w' ⟨he, q⟩ => ⟨q, .inl ⟨rfl, he⟩⟩
    | cons n l =>
      have hl' : l.length ≤ N := by simpa using hl
      have hm' : l.length ≤ 1000000 := by simp at hm; omega
      by_cases hk : 0 ≤ n.f4 ∧ n.f4 ≤ l.length
      · refine (grow_good N ih n l v lb w h hl' hm' hlb hk).mono fun e w' ⟨q, ho⟩ => ⟨q, ?_⟩
        rw [par, if_pos hk]
        rcases ho with ⟨h1, h2⟩ | ⟨ks, r, cs, rv, h1, h2⟩
        · exact .inl ⟨by rw [h1]; rfl, h2⟩
        · exact .inr ⟨.mk n ks, r, cs, rv, by rw [h1]; rfl, h2⟩
      · refine (grow_bad n l v lb w h hm' hk).mono fun e w' ⟨he, q⟩ => ⟨q, .inl ⟨?_, he⟩⟩
        rw [par, if_neg hk]
end Go.Proofs.Ytipgpnkdgofdeaa.Tm
