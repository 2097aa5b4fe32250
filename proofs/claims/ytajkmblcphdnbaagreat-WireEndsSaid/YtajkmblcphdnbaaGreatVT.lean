import Derived.Test.YtajkmblcphdnbaaGreatVS
/-! WireReads: printed by genreads.py. -/
namespace Go.Proofs.YtajkmblcphdnbaaGreat
open Go.RowKit
set_option linter.unusedVariables false
set_option linter.unusedSimpArgs false

theorem RfX.pres {w w' : World} {p q : Value} {ra xa : Nat} {st : Option (List Nat)} (h : RfX w q (.live xa) st) (hr : RdX w p (.live ra) st) (g : Gs (RM.live ra).S w w') (hne : xa ≠ ra) : RfX w' q (.live xa) st := by
  have q' : Og ra w w' := ⟨g.os, g.tape, g.output, g.size, fun k hk hn => g.block k hk (fun e => hn (by rw [show k = ra from e]))⟩
  obtain ⟨rfl, h⟩ := h
  obtain ⟨rfl, hr⟩ := hr
  refine ⟨rfl, ?_⟩
  cases st with
  | none => obtain ⟨_, _, _, hb⟩ := h; exact ⟨_, _, _, hb.og q' hne⟩
  | some l =>
    obtain ⟨⟨sl, hb, hs⟩, hl⟩ := h
    obtain ⟨⟨sl2, hb2, hs2⟩, _⟩ := hr
    exact ⟨⟨sl, hb.og q' hne, hs.og hb2 (no_u8 hs2.slice) q'⟩, hl⟩
theorem RdX.pres {w w' : World} {p q : Value} {ra xa : Nat} {st st2 : Option (List Nat)} (h : RdX w p (.live ra) st) (hx : RfX w q (.live xa) st2) (g : Gs (RM.live xa).S w w') (hne : xa ≠ ra) : RdX w' p (.live ra) st := by
  have q' : Og xa w w' := ⟨g.os, g.tape, g.output, g.size, fun k hk hn => g.block k hk (fun e => hn (by rw [show k = xa from e]))⟩
  obtain ⟨rfl, h⟩ := h
  obtain ⟨rfl, hx⟩ := hx
  obtain ⟨_, _, _, hbx⟩ := hx.blk
  refine ⟨rfl, ?_⟩
  cases st with
  | none => obtain ⟨_, hb⟩ := h; exact ⟨_, hb.og q' (Ne.symm hne)⟩
  | some l =>
    obtain ⟨⟨sl, hb, hs⟩, hl⟩ := h
    exact ⟨⟨sl, hb.og q' (Ne.symm hne), hs.og hbx (no_u8r ⟨_, _, _, rfl⟩) q'⟩, hl⟩
theorem gs_below {W w w' : World} {a : Nat} (hb : Qt W w) (g : Gs (RM.live a).S w w') (ha : W.heap.size ≤ a) : Qt W w' := Gs.below hb g (fun k e => by rw [show k = a from e]; exact ha)
theorem putC_len (x : PutD) (bv : Value) (h : x.h.length = 32) : (putC x bv).length = 37 := by simp [putC, u8s_len, h]
/-- Bytes that are written over, one by one. -/
def over (z : Nat) (l : List Nat) (k : Nat) : List Nat := List.replicate k z ++ l.drop k
theorem over_len (z : Nat) (l : List Nat) (k : Nat) (hk : k ≤ l.length) : (over z l k).length = l.length := by simp [over]; omega
theorem over_step (z : Nat) (l : List Nat) (k : Nat) (hk : k < l.length) : (over z l k).set k z = over z l (k + 1) := by
  unfold over
  rw [List.set_append_right _ _ (by simp), List.length_replicate, Nat.sub_self, List.drop_eq_getElem_cons hk, List.set_cons_zero]
  rw [show List.replicate (k + 1) z = List.replicate k z ++ [z] from by rw [List.replicate_succ']]
  simp
theorem over_get (z : Nat) (l : List Nat) (k y : Nat) (h : l[k]? = some y) : (over z l k)[k]? = some y := by
  unfold over
  rw [List.getElem?_append_right (by simp), List.length_replicate, Nat.sub_self, List.getElem?_drop]; simpa using h

set_option maxRecDepth 100000 in
set_option maxHeartbeats 4000000 in
theorem wireReads_any (v pv : Value) (bl : List Nat) (l : List (PutD × Value)) (W : World) (hs : Sl W v bl) (h8 : ∀ x ∈ bl, x < 256) (hp : Puts W pv l) :
    Calls Tryz.prog 5 #[v, pv] W fun e w' => e = .returned (.bool true) ∧ Qt W w' := by
  have hbl := hs.le
  have HS0 := Lib.hid hs
  have H8 := Lib.hid h8
  have HP := Lib.hid hp
  obtain ⟨va, vc, rfl⟩ := hs.len
  have HG := Lib.hid (great_any pv l va bl.length vc W hp hbl)
  obtain ⟨pa, c, rfl, hpc, hpm, _⟩ := hp
  have hpm1 := hpm.1
  have hpm2 := hpm.2
  clear hs h8 hpm
  cases hg : greatL l (l.length + bl.length) with
  | true =>
    rw [hg] at HG
    clear hg
    go_enter Tryz.func5, Tryz.ntmps5
    go_wp2_with (first
      | (go_at_call 7; refine HG.out.mono ?_; rintro e w1 ⟨rfl, rfl⟩)
      | (go_at_call 6; refine (awake_any _).mono ?_; rintro e w1 ⟨rfl, q⟩))
    go_ret
    exact ⟨rfl, q⟩
  | false =>
    rw [hg] at HG
    obtain ⟨hn, _⟩ := greatL_no hg
    have hb300 : bl.length ≤ 300 := by omega
    clear hg hn
    obtain ⟨i0, hi0, hz0, hz1, hz2⟩ := info_parts (P := Tryz.prog) (e := 5) (z := .int .u8 0) (size := 1) (bytes := 1) (by kernel_rfl)
    have HI0 := Lib.hid hi0
    have HZ0 := Lib.hid hz0
    have HZ1 := Lib.hid hz1
    have HZ2 := Lib.hid hz2
    have HRB : Tryz.prog.built 47 [(0, .slice va bl.length vc)] = some #[.slice va bl.length vc, .bool false] := by kernel_rfl
    have HRBB := Lib.hid HRB
    clear hi0 hz0 hz1 hz2 HRB
    go_enter Tryz.func5, Tryz.ntmps5
    go_wp2_with (first
      | (go_at_call 7; refine HG.out.mono ?_; rintro e w1 ⟨rfl, rfl⟩)
      | (at_builtin; go_must (refine wp_appQ rfl (.tmp 14) (.tmp 15) 26 26 rfl W.heap.size 5 i0 (.int .u8 0) 1 1 (by kernel_rfl) HI0.out HZ0.out HZ1.out HZ2.out rfl _ 0 [] rfl (OQ.emptyNew (Nat.le_refl _)) _ bl.length (u8s bl) rfl (Src.ofRd (e' := 5) (by kernel_rfl) (HS0.out.rd.below ((Qt.refl W).alloc _)) (by rw [u8s_len, Nat.mul_one]) (by decide) (u8s_one1 bl)) (by unfold maxLen; omega) (by omega) (by simp) ?_); intro v2 w2 h1 h2 h3; rw [Nat.zero_add, List.nil_append] at h1; (have hb2 := below_app (hb := (Below.refl W.heap.size W).alloc (Nat.le_refl _) _) (OQ.emptyNew (Nat.le_refl _)) h2); obtain ⟨a2, c2, rfl⟩ := h1.slice; (have HI := Lib.hid h1); (have HQ2 := Lib.hid (show Qt W w2 from hb2)); (have HNR := Lib.hid (NewReader_own _ bl w2 (h1.sl (by omega)) H8.out)); clear h1 h2 h3 hb2)
      | (go_at_call 13; refine HNR.out.mono ?_; rintro e w3 ⟨ra, sl, rfl, hra, hbr, hor, hq3⟩; (have HI3 := Lib.hid (HI.out.below hq3)); (have HQ3 := Lib.hid (HQ2.out.trans hq3)); (have HBR := Lib.hid hbr); (have HOR := Lib.hid hor); (have HRA := Lib.hid hra); clear hra hbr hor hq3)
      | (refine wpList_build rfl _ rfl (by rw [show _ = some _ from HRBB.out]; rfl) ?_))
    obtain ⟨N, hN⟩ : ∃ N, N = w2.heap.size := ⟨_, rfl⟩
    obtain ⟨xa, hxa⟩ : ∃ xa, xa = w3.heap.size := ⟨_, rfl⟩
    have hgl : ∀ g, (Value.slice a2 bl.length c2).ownBlock = some g → W.heap.size ≤ g ∧ g < N := by rw [hN]; exact HI.out.lt
    have hNra : N ≤ ra := by rw [hN]; exact HRA.out
    have hraX : ra < xa := by rw [hxa]; exact HBR.out.lt
    have hWN : W.heap.size ≤ N := by rw [hN]; exact HQ2.out.size
    have hx4 : Blk (w3.alloc (.cells #[.slice va bl.length vc, .bool false] 47)) xa 47 [.slice va bl.length vc, .bool false] := by rw [hxa]; exact heap_alloc_new w3 _
    have HX4 := Lib.hid hx4
    have HI4 := Lib.hid (HI3.out.alloc (.cells #[.slice va bl.length vc, .bool false] 47))
    have HBR4 := Lib.hid (HBR.out.alloc (.cells #[.slice va bl.length vc, .bool false] 47))
    have HOR4 := Lib.hid (show OQ (w3.alloc (.cells #[.slice va bl.length vc, .bool false] 47)) N 1 sl bl.length (u8s bl) by rw [hN]; exact HOR.out.alloc (.cells #[.slice va bl.length vc, .bool false] 47))
    have HQ4 := Lib.hid (HQ3.out.alloc (.cells #[.slice va bl.length vc, .bool false] 47))
    have HGL := Lib.hid hgl
    have HXA := Lib.hid hxa
    rw [← hxa]
    clear hgl hx4 HI HI3 HBR HOR HQ2 HQ3 hN hxa HNR HRA
    go_loopw [8] (fun i wr => ∃ k : Nat, k ≤ bl.length ∧ i = .int .i64 k ∧ OQ wr W.heap.size 1 (.slice a2 bl.length c2) bl.length (u8s (over 97 bl k)) ∧ Blk wr ra 69 [.bool true, .bool false, sl] ∧ OQ wr N 1 sl bl.length (u8s bl) ∧ Blk wr xa 47 [.slice va bl.length vc, .bool false] ∧ Qt W wr) (fun i _ => bl.length - (intOf i).toNat)
    case atStart => exact ⟨0, by omega, rfl, by simpa [over] using HI4.out, HBR4.out, HOR4.out, HX4.out, HQ4.out⟩
    case round =>
      obtain ⟨k, hk, rfl, hi, hbr, hor, hbx, hq⟩ := hrel
      have HI5 := Lib.hid hi
      have HBR5 := Lib.hid hbr
      have HOR5 := Lib.hid hor
      have HBX5 := Lib.hid hbx
      have HQ5 := Lib.hid hq
      clear hi hbr hor hbx hq HX4 HI4 HBR4 HOR4 HQ4
      by_cases hlt : k < bl.length
      · obtain ⟨z, hz⟩ : ∃ z, bl[k]? = some z := ⟨_, List.getElem?_eq_getElem hlt⟩
        obtain ⟨g, off, rfl⟩ := OQ.some_of HI5.out (by omega)
        have hgg := HGL.out g rfl
        have cin : wr.cell? ⟨g, off + k, none⟩ = some (.int .u8 (z : Int)) := by
          obtain ⟨_, ⟨h2, _⟩ | ⟨g', off', cap, h2, _, _, _, _, _, hx⟩⟩ := HI5.out
          · cases h2
          · cases h2; exact hx k _ (by rw [u8s, List.getElem?_map, over_get _ _ _ _ hz]; rfl)
        have fin : wr.frozen? ⟨g, off + k, none⟩ = false := by
          obtain ⟨_, ⟨h2, _⟩ | ⟨g', off', cap, h2, _, _, h3, _, hc, _⟩⟩ := HI5.out
          · cases h2
          · cases h2; exact (hc k (by omega)).2
        obtain ⟨bb, bo, rfl, cb⟩ : ∃ bb bo, va = some ⟨bb, bo, none⟩ ∧ wr.cell? ⟨bb, bo + k, none⟩ = some (.int .u8 (z : Int)) := by
          rcases HS0.out.qt HQ5.out with ⟨⟨_, h⟩, _⟩ | ⟨b, o, c', h, _, _, hx⟩
          · simp only [Value.slice.injEq] at h; omega
          · simp only [Value.slice.injEq] at h; obtain ⟨rfl, _, _⟩ := h; exact ⟨b, o, rfl, hx k z hz⟩
        have HST := Lib.hid (over_step 97 bl k hlt)
        have i1 : (k : Int) < (bl.length : Int) := by omega
        have i2 : (0 : Int) ≤ (k : Int) := by omega
        clear hz
        go_wp2_with fail
        go_quiet (fail)
        go_wp2_with fail
        have hq6 : Qt wr (wr.drewN nq) := (Qt.refl wr).drewN nq
        have hi6 := (HI5.out.drewN nq).set (k := k) (.int .u8 ((97 : Nat) : Int)) hlt
        rw [show (u8s (over 97 bl k)).set k (.int .u8 ((97 : Nat) : Int)) = u8s (over 97 bl (k + 1)) from by rw [← HST.out]; simp [u8s]] at hi6
        go_roundw
        case rel => exact ⟨k + 1, by omega, by go_num, hi6, (HBR5.out.qt hq6).far (p := ⟨g, off + k, none⟩) (by show ra ≠ g; omega) _, (HOR5.out.drewN nq).far (p := ⟨g, off + k, none⟩) (by intro e; have := (HOR5.out.lt _ e).1; have e2 : (⟨g, off + k, none⟩ : Addr).block = g := rfl; omega) _, (HBX5.out.qt hq6).far (p := ⟨g, off + k, none⟩) (by show xa ≠ g; omega) _, Below.setCell (p := ⟨g, off + k, none⟩) (HQ5.out.trans hq6) (by show W.heap.size ≤ g; exact hgg.1) _⟩
        case measure => simp [intOf]; omega
      · obtain rfl : k = bl.length := by omega
        have HRX0 := Lib.hid (show RdX wr (.pointer (some ⟨ra, 0, none⟩)) (.live ra) (some bl) from ⟨rfl, ⟨⟨sl, HBR5.out, OQ.sl HOR5.out (by omega)⟩, H8.out⟩⟩)
        have HFX0 := Lib.hid (show RfX wr (.pointer (some ⟨xa, 0, none⟩)) (.live xa) (some bl) from ⟨rfl, ⟨⟨_, HBX5.out, HS0.out.qt HQ5.out⟩, H8.out⟩⟩)
        have HSO := Lib.hid (show StOk (some bl) from fun l' e => by cases e; exact ⟨by omega, H8.out⟩)
        have HNE := Lib.hid (show xa ≠ ra by omega)
        have HRA := Lib.hid (show W.heap.size ≤ ra by omega)
        have HXA' := Lib.hid (show W.heap.size ≤ xa by omega)
        clear HXA HI5 HBR5 HOR5 HBX5
        have HXA := HXA'
        clear HXA'
        go_wp2
        go_loopw [9] (fun i w2 => ∃ (k : Nat) (st : Option (List Nat)), k ≤ l.length ∧ i = .int .i64 k ∧ StOk st ∧ RdX w2 (.pointer (some ⟨ra, 0, none⟩)) (.live ra) st ∧ RfX w2 (.pointer (some ⟨xa, 0, none⟩)) (.live xa) st ∧ Qt W w2) (fun i _ => l.length - (intOf i).toNat)
        case atStart => exact ⟨0, some bl, by omega, rfl, HSO.out, HRX0.out, HFX0.out, HQ5.out⟩
        case round =>
          obtain ⟨k, st, hk, rfl, hso, hrx, hfx, hq⟩ := hrel
          clear HRX0 HFX0 HSO
          by_cases hlt : k < l.length
          · obtain ⟨xx, hxx⟩ : ∃ xx, l[k]? = some xx := ⟨_, List.getElem?_eq_getElem hlt⟩
            obtain ⟨b, off, rfl, hrg, hok, _⟩ := HP.out.at hxx
            obtain ⟨x, bv⟩ := xx
            have HRG := Lib.hid hrg
            have HOK := Lib.hid hok
            obtain ⟨fs, hfs⟩ : ∃ fs, Tryz.prog.underlying 28 = some (.struct fs) := und_struct (by kernel_rfl)
            have HFS := Lib.hid hfs
            have HL37 := Lib.hid (putC_len x bv hok.h32)
            obtain ⟨htl, htn⟩ := toldX_ok x (.live ra) st hso
            have HTL := Lib.hid htl
            have HTN := Lib.hid htn
            have HSO2 := Lib.hid (hso.next x (pk x))
            have HQ := Lib.hid (show Qt W (World.drew _) from hq.trans (Qt.refl _).drew)
            have HR := Lib.hid (hrx.qt (Qt.refl _).drew)
            have HX := Lib.hid (hfx.qt (Qt.refl _).drew)
            have i1 : (k : Int) < (l.length : Int) := by omega
            have i2 : (0 : Int) ≤ (k : Int) := by omega
            clear hrg hok hfs htl htn hso hrx hfx hq hxx
            go_wp2_with fail
            refine wp_region_held (S := (fun w => w.rangeAt b (off + k * 37) (putC x bv))) (by kernel_rfl) ?_
            change wpAnyH _ _ _ _ _ _ _ _ (World.drew _)
            refine genH fun F0 hA => ?_
            have z0 : F0.tmps.size = 60 := by rw [hA]; rfl
            have e1_0 : F0.eval (.tmp 1) = .slice (some ⟨b, off, none⟩) l.length c := by rw [hA]; rfl
            have e6_0 : F0.eval (.tmp 6) = .pointer (some ⟨ra, 0, none⟩) := by rw [hA]; rfl
            have e7_0 : F0.eval (.tmp 7) = .pointer (some ⟨xa, 0, none⟩) := by rw [hA]; rfl
            have e9_0 : F0.eval (.tmp 9) = .int .i64 (k : Int) := by rw [hA]; rfl
            have HA := Lib.hid hA
            clear hA
            have HS := Lib.hid (rangeAt_qt HRG.out HQ.out)
            refine tkH (i := 0) (oi := _) (v := .pointer (some ⟨ra, 0, none⟩)) rfl (by kernel_rfl) (by kernel_rfl) (by kernel_rfl) (fun _ _ _ h => h) HS.out (wantedN rfl) (fun w _ => mv1 rfl e6_0 w) ?_
            intro F1 hF
            replace hF : F1 = F0.put (some 46) (.pointer (some ⟨ra, 0, none⟩)) := hF
            have z1 : F1.tmps.size = 60 := by rw [hF]; simpa [Act.put] using z0
            have e1_1 := (show F1.eval (.tmp 1) = F0.eval (.tmp 1) by rw [hF]; exact evO (by decide)).trans e1_0
            have e7_1 := (show F1.eval (.tmp 7) = F0.eval (.tmp 7) by rw [hF]; exact evO (by decide)).trans e7_0
            have e9_1 := (show F1.eval (.tmp 9) = F0.eval (.tmp 9) by rw [hF]; exact evO (by decide)).trans e9_0
            have e46_1 : F1.eval (.tmp 46) = .pointer (some ⟨ra, 0, none⟩) := by rw [hF]; exact evS (by rw [z0]; decide)
            have HF1 := Lib.hid hF
            clear hF e1_0 e6_0 e7_0 e9_0
            refine tkH (i := 1) (oi := _) (v := .slice (some ⟨b, off, none⟩) l.length c) rfl (by kernel_rfl) (by kernel_rfl) (by kernel_rfl) (fun _ _ _ h => h) HS.out (wantedN rfl) (fun w _ => mv1 rfl e1_1 w) ?_
            intro F2 hF
            replace hF : F2 = F1.put (some 47) (.slice (some ⟨b, off, none⟩) l.length c) := hF
            have z2 : F2.tmps.size = 60 := by rw [hF]; simpa [Act.put] using z1
            have e1_2 := (show F2.eval (.tmp 1) = F1.eval (.tmp 1) by rw [hF]; exact evO (by decide)).trans e1_1
            have e7_2 := (show F2.eval (.tmp 7) = F1.eval (.tmp 7) by rw [hF]; exact evO (by decide)).trans e7_1
            have e9_2 := (show F2.eval (.tmp 9) = F1.eval (.tmp 9) by rw [hF]; exact evO (by decide)).trans e9_1
            have e46_2 := (show F2.eval (.tmp 46) = F1.eval (.tmp 46) by rw [hF]; exact evO (by decide)).trans e46_1
            have e47_2 : F2.eval (.tmp 47) = .slice (some ⟨b, off, none⟩) l.length c := by rw [hF]; exact evS (by rw [z1]; decide)
            have HF2 := Lib.hid hF
            clear hF e1_1 e7_1 e9_1 e46_1
            refine tkH (i := 2) (oi := _) (v := .int .i64 (k : Int)) rfl (by kernel_rfl) (by kernel_rfl) (by kernel_rfl) (fun _ _ _ h => h) HS.out (wantedN rfl) (fun w _ => mv1 rfl e9_2 w) ?_
            intro F3 hF
            replace hF : F3 = F2.put (some 48) (.int .i64 (k : Int)) := hF
            have z3 : F3.tmps.size = 60 := by rw [hF]; simpa [Act.put] using z2
            have e1_3 := (show F3.eval (.tmp 1) = F2.eval (.tmp 1) by rw [hF]; exact evO (by decide)).trans e1_2
            have e7_3 := (show F3.eval (.tmp 7) = F2.eval (.tmp 7) by rw [hF]; exact evO (by decide)).trans e7_2
            have e9_3 := (show F3.eval (.tmp 9) = F2.eval (.tmp 9) by rw [hF]; exact evO (by decide)).trans e9_2
            have e46_3 := (show F3.eval (.tmp 46) = F2.eval (.tmp 46) by rw [hF]; exact evO (by decide)).trans e46_2
            have e47_3 := (show F3.eval (.tmp 47) = F2.eval (.tmp 47) by rw [hF]; exact evO (by decide)).trans e47_2
            have e48_3 : F3.eval (.tmp 48) = .int .i64 (k : Int) := by rw [hF]; exact evS (by rw [z2]; decide)
            have HF3 := Lib.hid hF
            clear hF e1_2 e7_2 e9_2 e46_2 e47_2
            refine tkH (i := 3) (oi := _) (v := .pointer (some ⟨b, off + k * 37, none⟩)) rfl (by kernel_rfl) (by kernel_rfl) (by kernel_rfl) (fun _ _ _ h => h) HS.out (wantedN rfl) (fun w _ => ia1 rfl e47_3 e48_3 (by go_simp)) ?_
            intro F4 hF
            replace hF : F4 = F3.put (some 49) (.pointer (some ⟨b, off + k * 37, none⟩)) := hF
            have z4 : F4.tmps.size = 60 := by rw [hF]; simpa [Act.put] using z3
            have e1_4 := (show F4.eval (.tmp 1) = F3.eval (.tmp 1) by rw [hF]; exact evO (by decide)).trans e1_3
            have e7_4 := (show F4.eval (.tmp 7) = F3.eval (.tmp 7) by rw [hF]; exact evO (by decide)).trans e7_3
            have e9_4 := (show F4.eval (.tmp 9) = F3.eval (.tmp 9) by rw [hF]; exact evO (by decide)).trans e9_3
            have e46_4 := (show F4.eval (.tmp 46) = F3.eval (.tmp 46) by rw [hF]; exact evO (by decide)).trans e46_3
            have e49_4 : F4.eval (.tmp 49) = .pointer (some ⟨b, off + k * 37, none⟩) := by rw [hF]; exact evS (by rw [z3]; decide)
            have HF4 := Lib.hid hF
            clear hF e1_3 e7_3 e9_3 e46_3 e47_3 e48_3
            refine tkH (i := 4) (oi := _) (v := .agg (putC x bv).toArray) rfl (by kernel_rfl) (by kernel_rfl) (by kernel_rfl) (fun _ _ _ h => h) HS.out (wantedN rfl) (fun w hs => ldRow rfl e49_4 hs (d := .struct fs) HFS.out rfl (by rw [HL37.out]; kernel_rfl)) ?_
            intro F5 hF
            replace hF : F5 = F4.put (some 50) (.agg (putC x bv).toArray) := hF
            have z5 : F5.tmps.size = 60 := by rw [hF]; simpa [Act.put] using z4
            have e1_5 := (show F5.eval (.tmp 1) = F4.eval (.tmp 1) by rw [hF]; exact evO (by decide)).trans e1_4
            have e7_5 := (show F5.eval (.tmp 7) = F4.eval (.tmp 7) by rw [hF]; exact evO (by decide)).trans e7_4
            have e9_5 := (show F5.eval (.tmp 9) = F4.eval (.tmp 9) by rw [hF]; exact evO (by decide)).trans e9_4
            have e46_5 := (show F5.eval (.tmp 46) = F4.eval (.tmp 46) by rw [hF]; exact evO (by decide)).trans e46_4
            have e50_5 : F5.eval (.tmp 50) = .agg (putC x bv).toArray := by rw [hF]; exact evS (by rw [z4]; decide)
            have HF5 := Lib.hid hF
            clear hF e1_4 e7_4 e9_4 e46_4 e49_4
            refine tkH (i := 6) (oi := _) (v := .pointer (some ⟨xa, 0, none⟩)) rfl (by kernel_rfl) (by kernel_rfl) (by kernel_rfl) (fun _ _ _ h => h) HS.out (wantedN rfl) (fun w _ => mv1 rfl e7_5 w) ?_
            intro F6 hF
            replace hF : F6 = F5.put (some 52) (.pointer (some ⟨xa, 0, none⟩)) := hF
            have z6 : F6.tmps.size = 60 := by rw [hF]; simpa [Act.put] using z5
            have e1_6 := (show F6.eval (.tmp 1) = F5.eval (.tmp 1) by rw [hF]; exact evO (by decide)).trans e1_5
            have e9_6 := (show F6.eval (.tmp 9) = F5.eval (.tmp 9) by rw [hF]; exact evO (by decide)).trans e9_5
            have e46_6 := (show F6.eval (.tmp 46) = F5.eval (.tmp 46) by rw [hF]; exact evO (by decide)).trans e46_5
            have e50_6 := (show F6.eval (.tmp 50) = F5.eval (.tmp 50) by rw [hF]; exact evO (by decide)).trans e50_5
            have e52_6 : F6.eval (.tmp 52) = .pointer (some ⟨xa, 0, none⟩) := by rw [hF]; exact evS (by rw [z5]; decide)
            have HF6 := Lib.hid hF
            clear hF e1_5 e7_5 e9_5 e46_5 e50_5
            refine tkH (i := 7) (oi := _) (v := .slice (some ⟨b, off, none⟩) l.length c) rfl (by kernel_rfl) (by kernel_rfl) (by kernel_rfl) (fun _ _ _ h => h) HS.out (wantedN rfl) (fun w _ => mv1 rfl e1_6 w) ?_
            intro F7 hF
            replace hF : F7 = F6.put (some 53) (.slice (some ⟨b, off, none⟩) l.length c) := hF
            have z7 : F7.tmps.size = 60 := by rw [hF]; simpa [Act.put] using z6
            have e9_7 := (show F7.eval (.tmp 9) = F6.eval (.tmp 9) by rw [hF]; exact evO (by decide)).trans e9_6
            have e46_7 := (show F7.eval (.tmp 46) = F6.eval (.tmp 46) by rw [hF]; exact evO (by decide)).trans e46_6
            have e50_7 := (show F7.eval (.tmp 50) = F6.eval (.tmp 50) by rw [hF]; exact evO (by decide)).trans e50_6
            have e52_7 := (show F7.eval (.tmp 52) = F6.eval (.tmp 52) by rw [hF]; exact evO (by decide)).trans e52_6
            have e53_7 : F7.eval (.tmp 53) = .slice (some ⟨b, off, none⟩) l.length c := by rw [hF]; exact evS (by rw [z6]; decide)
            have HF7 := Lib.hid hF
            clear hF e1_6 e9_6 e46_6 e50_6 e52_6
            refine tkH (i := 8) (oi := _) (v := .int .i64 (k : Int)) rfl (by kernel_rfl) (by kernel_rfl) (by kernel_rfl) (fun _ _ _ h => h) HS.out (wantedN rfl) (fun w _ => mv1 rfl e9_7 w) ?_
            intro F8 hF
            replace hF : F8 = F7.put (some 54) (.int .i64 (k : Int)) := hF
            have z8 : F8.tmps.size = 60 := by rw [hF]; simpa [Act.put] using z7
            have e46_8 := (show F8.eval (.tmp 46) = F7.eval (.tmp 46) by rw [hF]; exact evO (by decide)).trans e46_7
            have e50_8 := (show F8.eval (.tmp 50) = F7.eval (.tmp 50) by rw [hF]; exact evO (by decide)).trans e50_7
            have e52_8 := (show F8.eval (.tmp 52) = F7.eval (.tmp 52) by rw [hF]; exact evO (by decide)).trans e52_7
            have e53_8 := (show F8.eval (.tmp 53) = F7.eval (.tmp 53) by rw [hF]; exact evO (by decide)).trans e53_7
            have e54_8 : F8.eval (.tmp 54) = .int .i64 (k : Int) := by rw [hF]; exact evS (by rw [z7]; decide)
            have HF8 := Lib.hid hF
            clear hF e9_7 e46_7 e50_7 e52_7 e53_7
            refine tkH (i := 9) (oi := _) (v := .pointer (some ⟨b, off + k * 37, none⟩)) rfl (by kernel_rfl) (by kernel_rfl) (by kernel_rfl) (fun _ _ _ h => h) HS.out (wantedN rfl) (fun w _ => ia1 rfl e53_8 e54_8 (by go_simp)) ?_
            intro F9 hF
            replace hF : F9 = F8.put (some 55) (.pointer (some ⟨b, off + k * 37, none⟩)) := hF
            have z9 : F9.tmps.size = 60 := by rw [hF]; simpa [Act.put] using z8
            have e46_9 := (show F9.eval (.tmp 46) = F8.eval (.tmp 46) by rw [hF]; exact evO (by decide)).trans e46_8
            have e50_9 := (show F9.eval (.tmp 50) = F8.eval (.tmp 50) by rw [hF]; exact evO (by decide)).trans e50_8
            have e52_9 := (show F9.eval (.tmp 52) = F8.eval (.tmp 52) by rw [hF]; exact evO (by decide)).trans e52_8
            have e55_9 : F9.eval (.tmp 55) = .pointer (some ⟨b, off + k * 37, none⟩) := by rw [hF]; exact evS (by rw [z8]; decide)
            have HF9 := Lib.hid hF
            clear hF e46_8 e50_8 e52_8 e53_8 e54_8
            refine tkH (i := 10) (oi := _) (v := .agg (putC x bv).toArray) rfl (by kernel_rfl) (by kernel_rfl) (by kernel_rfl) (fun _ _ _ h => h) HS.out (wantedN rfl) (fun w hs => ldRow rfl e55_9 hs (d := .struct fs) HFS.out rfl (by rw [HL37.out]; kernel_rfl)) ?_
            intro F10 hF
            replace hF : F10 = F9.put (some 56) (.agg (putC x bv).toArray) := hF
            have z10 : F10.tmps.size = 60 := by rw [hF]; simpa [Act.put] using z9
            have e46_10 := (show F10.eval (.tmp 46) = F9.eval (.tmp 46) by rw [hF]; exact evO (by decide)).trans e46_9
            have e50_10 := (show F10.eval (.tmp 50) = F9.eval (.tmp 50) by rw [hF]; exact evO (by decide)).trans e50_9
            have e52_10 := (show F10.eval (.tmp 52) = F9.eval (.tmp 52) by rw [hF]; exact evO (by decide)).trans e52_9
            have e56_10 : F10.eval (.tmp 56) = .agg (putC x bv).toArray := by rw [hF]; exact evS (by rw [z9]; decide)
            have HF10 := Lib.hid hF
            clear hF e46_9 e50_9 e52_9 e55_9
            refine clH (i := 5) (oi := _) rfl (by kernel_rfl) (wantedN rfl) 14 #[.pointer (some ⟨ra, 0, none⟩), .agg (putC x bv).toArray] (clF rfl (by simp only [List.map_toArray, List.map_cons, List.map_nil, e46_10, e50_10] <;> rfl) (fun args w => by kernel_rfl)) (.agg (toldX x (.live ra) st).toArray) (fun w' => RdX w' (.pointer (some ⟨ra, 0, none⟩)) (.live ra) (nextK x st (pk x)) ∧ Gs (RM.live ra).S wr.drew w') ((tells_any _ _ x bv st _ HR.out HOK.out).mono (by rintro e w' ⟨rfl, h, g⟩; exact ⟨rfl, h, g⟩)) ?_
            intro w2 F11 hF ⟨hr2, hg2⟩
            replace hF : F11 = F10.put (some 51) (.agg (toldX x (.live ra) st).toArray) := hF
            have hx2 := RfX.pres HX.out HR.out hg2 HNE.out
            have hq2 := gs_below HQ.out hg2 HRA.out
            have HR2 := Lib.hid hr2
            have HX2 := Lib.hid hx2
            have HQ2 := Lib.hid hq2
            clear hr2 hx2 hg2 hq2
            refine ⟨rangeAt_qt HRG.out HQ2.out, ?_⟩
            have HS := Lib.hid (rangeAt_qt HRG.out HQ2.out)
            have z11 : F11.tmps.size = 60 := by rw [hF]; simpa [Act.put] using z10
            have e51_11 : F11.eval (.tmp 51) = .agg (toldX x (.live ra) st).toArray := by rw [hF]; exact evS (by rw [z10]; decide)
            have e52_11 := (show F11.eval (.tmp 52) = F10.eval (.tmp 52) by rw [hF]; exact evO (by decide)).trans e52_10
            have e56_11 := (show F11.eval (.tmp 56) = F10.eval (.tmp 56) by rw [hF]; exact evO (by decide)).trans e56_10
            have HF11 := Lib.hid hF
            clear hF e46_10 e50_10 e52_10 e56_10
            refine clH (i := 11) (oi := _) rfl (by kernel_rfl) (wantedN rfl) 15 #[.pointer (some ⟨xa, 0, none⟩), .agg (putC x bv).toArray] (clF rfl (by simp only [List.map_toArray, List.map_cons, List.map_nil, e52_11, e56_11] <;> rfl) (fun args w => by kernel_rfl)) (.agg (toldX x (.live ra) st).toArray) (fun w' => RfX w' (.pointer (some ⟨xa, 0, none⟩)) (.live xa) (nextK x st (pk x)) ∧ Gs (RM.live xa).S w2 w') ((wants_any _ _ x bv st _ HX2.out HOK.out).mono (by rintro e w' ⟨rfl, h, g⟩; exact ⟨rfl, h, g⟩)) ?_
            intro w3 F12 hF ⟨hx3, hg3⟩
            replace hF : F12 = F11.put (some 57) (.agg (toldX x (.live ra) st).toArray) := hF
            have hr3 := RdX.pres HR2.out HX2.out hg3 HNE.out
            have hq3 := gs_below HQ2.out hg3 HXA.out
            have HR3 := Lib.hid hr3
            have HX3 := Lib.hid hx3
            have HQ3 := Lib.hid hq3
            clear hr3 hx3 hg3 hq3
            refine ⟨rangeAt_qt HRG.out HQ3.out, ?_⟩
            have HS := Lib.hid (rangeAt_qt HRG.out HQ3.out)
            have z12 : F12.tmps.size = 60 := by rw [hF]; simpa [Act.put] using z11
            have e51_12 := (show F12.eval (.tmp 51) = F11.eval (.tmp 51) by rw [hF]; exact evO (by decide)).trans e51_11
            have e57_12 : F12.eval (.tmp 57) = .agg (toldX x (.live ra) st).toArray := by rw [hF]; exact evS (by rw [z11]; decide)
            have HF12 := Lib.hid hF
            clear hF e51_11 e52_11 e56_11
            refine tkH (i := 12) (oi := _) (v := .bool false) rfl (by kernel_rfl) (by kernel_rfl) (by kernel_rfl) (fun _ _ _ h => h) HS.out (wantedN rfl) (fun w _ => bo1 rfl e51_12 e57_12 (run_eqGuard_agg _ _ _ _ _ _ _ (by kernel_rfl)) (neq_same _ HTL.out HTN.out w)) ?_
            intro F13 hF
            replace hF : F13 = F12.put (some 58) (.bool false) := hF
            have z13 : F13.tmps.size = 60 := by rw [hF]; simpa [Act.put] using z12
            have HF13 := Lib.hid hF
            clear hF e51_12 e57_12
            refine wpAnyH_done (by kernel_rfl) ?_ _
            rw [HF13.out, HF12.out, HF11.out, HF10.out, HF9.out, HF8.out, HF7.out, HF6.out, HF5.out, HF4.out, HF3.out, HF2.out, HF1.out, HA.out]
            simp only [Act.put, List.setIfInBounds_toArray, List.set_cons_succ, List.set_cons_zero]
            clear HF13 HF12 HF11 HF10 HF9 HF8 HF7 HF6 HF5 HF4 HF3 HF2 HF1 HA z13 z12 z11 z10 z9 z8 z7 z6 z5 z4 z3 z2 z1 z0 

            go_wp2
            go_roundw
            case rel => exact ⟨k + 1, nextK x st (pk x), by omega, by go_num, HSO2.out, HR3.out, HX3.out, HQ3.out⟩
            case measure => simp [intOf]; omega
          · obtain rfl : k = l.length := by omega
            have HQ := Lib.hid hq
            clear hso hrx hfx hq
            go_wp2_with (go_at_call 6; refine (awake_any _).mono ?_; rintro e w1 ⟨rfl, q⟩)
            go_ret
            exact ⟨rfl, HQ.out.trans q⟩
end Go.Proofs.YtajkmblcphdnbaaGreat
