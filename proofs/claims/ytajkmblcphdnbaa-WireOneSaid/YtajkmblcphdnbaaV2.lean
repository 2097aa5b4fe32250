import Derived.Test.YtajkmblcphdnbaaV1
import Derived.Test.YtajkmblcphdnbaaVU
/-! WireOne: printed by genone.py. -/
namespace Go.Proofs.Ytajkmblcphdnbaa
open Go.RowKit
set_option linter.unusedVariables false
set_option linter.unusedSimpArgs false

theorem le_sumO {l : List Nat} {n : Nat} (h : n ∈ l) : n ≤ l.sum := by
  induction l with
  | nil => cases h
  | cons a r ih =>
    rw [List.sum_cons]
    rcases List.mem_cons.1 h with rfl | h
    · omega
    · have := ih h; omega
theorem putC_lenO (x : PutD) (bv : Value) (h : x.h.length = 32) : (putC x bv).length = 37 := by simp [putC, u8s_len, h]
theorem RO.below {W w0 w : World} {a : Nat} {st : Option (List Nat)} (h : RO w0 w a st) (q : Qt W w0) (ha : W.heap.size ≤ a) : Qt W w := Og.below q h.q ha
theorem Err_r (a : Nat) (st : Option (List Nat)) (w0 w : World) (hr : RO w0 w a st) : Calls Try.prog 20 #[.pointer (some ⟨a, 0, none⟩)] w fun e w' => e = .returned (.int .i64 (if st.isSome then 0 else 4)) ∧ w = w' := Err_any a st w hr.rd
theorem End_r (a : Nat) (st : Option (List Nat)) (w0 w : World) (hr : RO w0 w a st) : Calls Try.prog 21 #[.pointer (some ⟨a, 0, none⟩)] w fun e w' => e = .returned (.bool (st == some [])) ∧ w = w' := End_any a st w hr.rd

set_option maxRecDepth 1000000 in
set_option maxHeartbeats 4000000 in
theorem wireOne_any (v pv : Value) (bl : List Nat) (l : List (PutD × Value)) (W : World) (hs : Sl W v bl) (h8 : ∀ x ∈ bl, x < 256) (hp : Puts W pv l) :
    Calls Try.prog 5 #[v, pv] W fun e w' => e = .returned (.bool true) ∧ Qt W w' := by
  have hbl := hs.le
  have HS0 := Lib.hid hs
  have H8 := Lib.hid h8
  have HP := Lib.hid hp
  obtain ⟨va, vc, rfl⟩ := hs.len
  have HG := Lib.hid (fun w (q : Qt W w) => great_any pv l va bl.length vc w (hp.qt q) hbl)
  obtain ⟨pa, c, rfl, hpc, hpm, _⟩ := hp
  have hpm1 := hpm.1
  have hpm2 := hpm.2
  clear hs h8 hpm
  cases hg : greatL l (l.length + bl.length) with
  | true =>
    rw [hg] at HG
    clear hg
    go_enter Try.func5, Try.ntmps5
    go_wp2_with (first
      | (go_at_call 9; refine (awake_any _).mono ?_; rintro e w1 ⟨rfl, q⟩; have HQ1 := Lib.hid q; clear q)
      | (go_at_call 8; refine (HG.out _ HQ1.out).mono ?_; rintro e w2 ⟨rfl, rfl⟩))
    go_ret
    exact ⟨rfl, HQ1.out⟩
  | false =>
    rw [hg] at HG
    obtain ⟨hn, _⟩ := greatL_no hg
    have hb300 : bl.length ≤ 300 := by omega
    obtain ⟨fs, hfs⟩ : ∃ fs, Try.prog.underlying 39 = some (.struct fs) := und_struct (by kernel_rfl)
    have HFS := Lib.hid hfs
    clear hg hn hfs
    go_enter Try.func5, Try.ntmps5
    go_wp2_with (first
      | (go_at_call 9; refine (awake_any _).mono ?_; rintro e w1 ⟨rfl, q⟩; have HQ1 := Lib.hid q; clear q)
      | (go_at_call 8; refine (HG.out _ HQ1.out).mono ?_; rintro e w2 ⟨rfl, rfl⟩)
      | (go_at_call 10; refine (NewReader_own _ bl _ (HS0.out.qt HQ1.out) H8.out).mono ?_; rintro e w3 ⟨ra, sl, rfl, hra, hbr, hor, hq3⟩; (have HRO := Lib.hid (show RO w3 w3 ra (some bl) from ⟨⟨⟨sl, hbr, OQ.sl hor hbl⟩, H8.out⟩, ⟨true, false, sl, hbr, (OQ.sl hor hbl).slice⟩, Og.refl _ _, fun l' e => by cases e; exact ⟨hbl, H8.out⟩⟩)); (have HQ3 := Lib.hid (HQ1.out.trans hq3)); (have HRA := Lib.hid (Nat.le_trans HQ1.out.size hra)); clear hra hbr hor hq3)
      | (go_at_call 13; refine (newWriter_any _).mono ?_; rintro e w4 ⟨rfl, hw, hq, _⟩; (have HWO := Lib.hid (show WO w3 w4 w3.heap.size (some []) from ⟨_, hw, fun k hk => by rw [hk]; exact Nat.le_refl _⟩)); (have HRO4 := Lib.hid (HRO.out.qt hq)); clear hw hq HRO))
    obtain ⟨q, hq⟩ : ∃ q, q = w3.heap.size := ⟨_, rfl⟩
    rw [← hq] at HWO
    rw [← hq]
    clear hq
    go_loopw [7] (fun i wr => ∃ (k : Nat) (done rest : List Nat), k ≤ l.length ∧ i = .int .i64 k ∧ done ++ rest = bl ∧ RO w3 wr ra (some rest) ∧ WO w3 wr q (some done)) (fun i _ => l.length - (intOf i).toNat)
    case atStart => exact ⟨0, [], bl, by omega, rfl, rfl, HRO4.out, HWO.out⟩
    case round =>
      obtain ⟨k, done, rest, hk, rfl, hdr, hro, hwo⟩ := hrel
      have HR := Lib.hid hro
      have HW := Lib.hid hwo
      have HDR := Lib.hid hdr
      have hlen : done.length + rest.length = bl.length := by rw [← hdr, List.length_append]
      clear hro hwo hdr HRO4 HWO
      by_cases hlt : k < l.length
      · obtain ⟨xx, hxx⟩ : ∃ xx, l[k]? = some xx := ⟨_, List.getElem?_eq_getElem hlt⟩
        obtain ⟨b, off, rfl, hrg, hok, hrd⟩ := HP.out.at hxx
        obtain ⟨x, bv⟩ := xx
        dsimp only at hrg hok hrd
        have HRG := Lib.hid hrg
        have HOK := Lib.hid hok
        have H37 := Lib.hid (putC_lenO x bv hok.h32)
        have i1 : (k : Int) < (l.length : Int) := by omega
        have i2 : (0 : Int) ≤ (k : Int) := by omega
        have HLF := Lib.hid (Left_r ra (some rest) w3 wr HR.out)
        clear hrg hok hrd hxx
        cases hst : nextK x (some rest) (pk x) with
        | none =>
          have HAG := Lib.hid (fun w (h1 : RO w3 w ra (some rest)) (h2 : WO w3 w q (some done)) => again_any ra q x bv (some rest) (some done) w3 w h1 h2 HOK.out (by simp only [lenO]; omega))
          rw [hst] at HAG
          clear hst
          have HLN := Lib.hid (fun w (h : RO w3 w ra none) => Left_r ra none w3 w h)
          have HER := Lib.hid (fun w (h : RO w3 w ra none) => Err_r ra none w3 w h)
          have HEN := Lib.hid (fun w (h : RO w3 w ra none) => End_r ra none w3 w h)
          have HU8 := Lib.hid (fun w (h : RO w3 w ra none) => U8_r ra none w3 w h)
          have HRW := Lib.hid (fun w (h : RO w3 w ra none) => Raw_r ra 0 none w3 w h)
          go_wp2_with (first
            | (have _t := HLF; go_at_call 18; refine HLF.out.mono ?_; rintro e w5 ⟨rfl, hr5, g5⟩; (have HR5 := Lib.hid hr5); (have HW5 := Lib.hid (HW.out.og g5 hr5.lt)); clear hr5 g5 HLF)
            | (have _t := HLN; go_at_call 18; refine (HLN.out _ HR6.out).mono ?_; rintro e w7 ⟨rfl, hr7, g7⟩; (have HR7 := Lib.hid hr7); clear hr7 g7)
            | (go_at_call 19; refine (HAG.out _ HR5.out HW5.out).mono ?_; rintro e w6 ⟨rfl, hr6, _⟩; (have HR6 := Lib.hid hr6); clear hr6)
            | (go_at_call 20; refine (HER.out _ HR6.out).mono ?_; rintro e w7 ⟨rfl, rfl⟩)
            | (go_at_call 21; refine (HEN.out _ HR7.out).mono ?_; rintro e w8 ⟨rfl, rfl⟩)
            | (go_at_call 22; refine (HU8.out _ HR7.out).mono ?_; rintro e w8 ⟨rfl, hr8, _⟩; (have HR8 := Lib.hid hr8); clear hr8)
            | (go_at_call 23; refine (HRW.out _ HR8.out).mono ?_; rintro e w9 ⟨r9, rfl, ho9, hr9, _⟩; obtain ⟨a9, c9, rfl⟩ := ho9.slice; (have HR9 := Lib.hid hr9); clear ho9 hr9)
            | (have _t := H37; refine wpList_load_mid rfl 39 (.tmp 32) rfl b (off + k * 37) rfl (putC x bv) (.struct fs) (rangeAt_qt HRG.out (HR5.out.below HQ3.out HRA.out)) HFS.out rfl (by rw [H37.out]; kernel_rfl) ?_))
          go_ret
          exact ⟨rfl, HR9.out.below HQ3.out HRA.out⟩
        | some r' =>
          obtain ⟨e', he', hag⟩ := again_put x (pk x) rest r' (fun z hz => H8.out z (by rw [← HDR.out]; exact List.mem_append_right _ hz)) hst
          have HAG := Lib.hid (fun w (h1 : RO w3 w ra (some rest)) (h2 : WO w3 w q (some done)) => again_any ra q x bv (some rest) (some done) w3 w h1 h2 HOK.out (by simp only [lenO]; omega))
          rw [hst, hag] at HAG
          have HDR' := Lib.hid (show (done ++ e') ++ r' = bl by rw [List.append_assoc, ← he']; exact HDR.out)
          have hle : r'.length ≤ rest.length := by rw [he', List.length_append]; omega
          have HLN := Lib.hid (fun w (h : RO w3 w ra (some r')) => Left_r ra (some r') w3 w h)
          have HER := Lib.hid (fun w (h : RO w3 w ra (some r')) => Err_r ra (some r') w3 w h)
          have e1 : leftV (some rest) = rest.length := by simp [leftV]
          have e2 : leftV (some r') = r'.length := by simp [leftV]
          rw [e1] at HLF
          rw [e2] at HLN
          have hgt : decide ((rest.length : Int) < (r'.length : Int)) = false := by simp; omega
          clear hst hag he' e1 e2
          go_wp2_with (first
            | (have _t := HLF; go_at_call 18; refine HLF.out.mono ?_; rintro e w5 ⟨rfl, hr5, g5⟩; (have HR5 := Lib.hid hr5); (have HW5 := Lib.hid (HW.out.og g5 hr5.lt)); clear hr5 g5 HLF)
            | (have _t := HLN; go_at_call 18; refine (HLN.out _ HR6.out).mono ?_; rintro e w7 ⟨rfl, hr7, g7⟩; (have HR7 := Lib.hid hr7); (have HW7 := Lib.hid (HW6.out.og g7 hr7.lt)); clear hr7 g7)
            | (go_at_call 19; refine (HAG.out _ HR5.out HW5.out).mono ?_; rintro e w6 ⟨rfl, hr6, hw6⟩; (have HR6 := Lib.hid hr6); (have HW6 := Lib.hid hw6); clear hr6 hw6)
            | (go_at_call 20; refine (HER.out _ HR6.out).mono ?_; rintro e w7 ⟨rfl, rfl⟩)
            | (have _t := H37; refine wpList_load_mid rfl 39 (.tmp 32) rfl b (off + k * 37) rfl (putC x bv) (.struct fs) (rangeAt_qt HRG.out (HR5.out.below HQ3.out HRA.out)) HFS.out rfl (by rw [H37.out]; kernel_rfl) ?_))
          go_roundw
          case rel => exact ⟨k + 1, done ++ e', r', by omega, by go_num, HDR'.out, HR7.out, HW7.out⟩
          case measure => simp [intOf]; omega
      · obtain rfl : k = l.length := by omega
        have e1 : leftV (some rest) = rest.length := by simp [leftV]
        have HLF := Lib.hid (Left_r ra (some rest) w3 wr HR.out)
        rw [e1] at HLF
        have hc : RawC (rest.length : Int) rest := by unfold RawC; omega
        have e2 : rawB (rest.length : Int) (some rest) = rest := by simp [rawB, if_pos hc]
        have e3 : rawN (rest.length : Int) (some rest) = some [] := by simp [rawN, if_pos hc]
        have HRW := Lib.hid (fun w (h : RO w3 w ra (some rest)) => Raw_r ra (rest.length : Int) (some rest) w3 w h)
        rw [e2, e3] at HRW
        have h8r : ∀ z ∈ rest, z < 256 := fun z hz => H8.out z (by rw [← HDR.out]; exact List.mem_append_right _ hz)
        have H8R := Lib.hid h8r
        obtain ⟨S, hS⟩ : ∃ S, S = str bl := ⟨_, rfl⟩
        have HSS := Lib.hid hS
        have HWR := Lib.hid (fun w (h : RO w3 w ra (some [])) (h2 : WO w3 w q (some done)) (r : Value) (h3 : Rd w r rest.length (u8s rest)) => wRaw_r q ra (some done) (some []) w3 w r rest h3 H8R.out h2 h (by simp only [lenO]; omega))
        have e4 : (some done).map (· ++ rest) = some bl := by rw [← HDR.out]; rfl
        rw [e4] at HWR
        have HBY : Hid (∀ w, WO w3 w q (some bl) → Calls Try.prog 16 #[.pointer (some ⟨q, 0, none⟩)] w fun e w' => ∃ v, e = .returned (.tuple #[v, .int .i64 0]) ∧ OQ w' w.heap.size 1 v bl.length (u8s bl) ∧ Qt w w') := Lib.hid (fun w h => by
          obtain ⟨T, h1, h2⟩ := h
          exact wBytes_any T q (some bl) w h1 (by simp only [lenO]; omega))
        have HEN := Lib.hid (fun w (h : RO w3 w ra (some [])) => End_r ra (some []) w3 w h)
        clear e1 hc e2 e3 h8r hS e4 hlen
        go_wp2_with (first
          | (go_at_call 18; refine HLF.out.mono ?_; rintro e w5 ⟨rfl, hr5, g5⟩; (have HR5 := Lib.hid hr5); (have HW5 := Lib.hid (HW.out.og g5 hr5.lt)); clear hr5 g5)
          | (go_at_call 23; refine (HRW.out _ HR5.out).mono ?_; rintro e w6 ⟨r6, rfl, ho6, hr6, g6⟩; obtain ⟨a6, c6, rfl⟩ := ho6.slice; (have HR6 := Lib.hid hr6); (have HO6 := Lib.hid ho6); (have HW6 := Lib.hid (HW5.out.og g6 hr6.lt)); clear ho6 hr6 g6)
          | (go_at_call 24; refine (HWR.out _ HR6.out HW6.out _ (Rd.of_OQ HO6.out)).mono ?_; rintro e w7 ⟨rfl, hw7, hr7, _⟩; (have HR7 := Lib.hid hr7); (have HW7 := Lib.hid hw7); clear hw7 hr7)
          | (go_at_call 16; refine (HBY.out _ HW7.out).mono ?_; rintro e w8 ⟨v8, rfl, ho8, hq8⟩; obtain ⟨a8, c8, rfl⟩ := ho8.slice; (have HR8 := Lib.hid (HR7.out.qt hq8)); (have hcv1 := conv_str (P := Try.prog) 22 5 (by kernel_rfl) (by kernel_rfl) (Rd.of_OQ ho8) rfl 9 (by kernel_rfl)); (have hcv2 := conv_str (P := Try.prog) 22 5 (by kernel_rfl) (by kernel_rfl) (HS0.out.qt (HR8.out.below HQ3.out HRA.out)).rd rfl 9 (by kernel_rfl)); rw [← HSS.out] at hcv1 hcv2; clear ho8 hq8)
          | (go_at_call 21; refine (HEN.out _ HR8.out).mono ?_; rintro e w9 ⟨rfl, rfl⟩))
        go_ret
        exact ⟨rfl, HR8.out.below HQ3.out HRA.out⟩
end Go.Proofs.Ytajkmblcphdnbaa
