import Derived.Test.YtajkmblcphdnbaaGreatVD
import Derived.Test.YtajkmblcphdnbaaGreatWU
/-! The reference's writer: put, below. -/
namespace Go.Proofs.YtajkmblcphdnbaaGreat
open Go.RowKit
set_option linter.unusedVariables false
set_option linter.unusedSimpArgs false

set_option maxRecDepth 100000 in
set_option maxHeartbeats 1000000 in
theorem xput_some (S : Nat → Prop) (a n k : Nat) (l : List Nat) (w : World) (hW : WfA S w a (some l)) (hk : k ≤ 8) (hl : l.length + k ≤ 140737488355328) :
    Calls Tryz.prog 78 #[.pointer (some ⟨a, 0, none⟩), .int .u64 (n : Int), .int .i64 (k : Int)] w fun e w' =>
      e = .returned (.tuple #[]) ∧ WfA (Fr S w w') w' a (some (l ++ beB k n)) ∧ Gs S w w' := by
  obtain ⟨i0, hi0, hz0, hz1, hz2⟩ := info_parts (P := Tryz.prog) (e := 5) (z := .int .u8 0) (size := 1) (bytes := 1) (by kernel_rfl)
  have HI0 := Lib.hid hi0
  have HZ0 := Lib.hid hz0
  have HZ1 := Lib.hid hz1
  have HZ2 := Lib.hid hz2
  clear hi0 hz0 hz1 hz2
  have HW := Lib.hid hW
  obtain ⟨sl, hb, hO⟩ := hW
  have c1 : w.cell? ⟨a, 1, none⟩ = some (.bool false) := hb.cell 1
  have HLT := Lib.hid hO.lt
  clear hb hO
  go_enter Tryz.func78, Tryz.ntmps78
  go_wp2
  go_loopw [6] (fun m wr => ∃ j : Nat, j ≤ k ∧ m = .int .i64 ((k : Int) - 1 - j) ∧ WfA (Fr S w wr) wr a (some (l ++ (beB k n).take j)) ∧ Gs S w wr) (fun m _ => (intOf m + 1).toNat)
  case atStart => exact ⟨0, by omega, by go_num, by simpa using HW.out.fr, Gs.refl _ _⟩
  case round =>
    obtain ⟨j, hj, rfl, hWr, hG⟩ := hrel
    have HWR := Lib.hid hWr
    have HG := Lib.hid hG
    clear hWr hG
    by_cases hlt : j < k
    · obtain ⟨i, hi⟩ : ∃ i, k = j + 1 + i := ⟨k - j - 1, by omega⟩
      have ei : (k : Int) - 1 - j = (i : Int) := by omega
      rw [ei]
      clear ei
      have hi7 : i ≤ 7 := by omega
      have HT := Lib.hid (beB_take n j i k hi)
      have HIJ := Lib.hid hi
      obtain ⟨N, hN⟩ : ∃ N, N = n / 2 ^ (8 * i) := ⟨_, rfl⟩
      have hu : (n : Int) / 2 ^ (8 * i) % 256 = ((n / 2 ^ (8 * i) % 256 : Nat) : Int) := by simp
      rw [← hN] at HT hu
      have HU := Lib.hid hu
      have hll : (l ++ (beB k n).take j).length = l.length + j := by rw [List.length_append, List.length_take, beB_len, Nat.min_eq_left hj]
      have hstep : l ++ (beB k n).take (j + 1) = (l ++ (beB k n).take j) ++ [N % 256] := by rw [HT.out, List.append_assoc]
      obtain ⟨L, hL⟩ : ∃ L, L = l ++ (beB k n).take j := ⟨_, rfl⟩
      rw [← hL] at hll hstep HWR
      obtain ⟨sl', hb, hO⟩ := HWR.out
      have c0 : wr.cell? ⟨a, 0, none⟩ = some sl' := hb.cell 0
      have c0' : ∀ o, (wr.alloc o).cell? ⟨a, 0, none⟩ = some sl' := fun o => (hb.alloc o).cell 0
      have f0 : wr.frozen? ⟨a, 0, none⟩ = false := hb.frozen 0
      have hoq := hO.oq
      obtain ⟨va, vc, rfl⟩ := hoq.slice
      have HLN := Lib.hid (show L.length + 1 ≤ maxLen ∧ (L.length + 1) * 1 ≤ 140737488355328 from by unfold maxLen; omega)
      have HB := Lib.hid hb
      have HO := Lib.hid hO
      have HOQ := Lib.hid hoq
      have HS := Lib.hid hstep
      have HN := Lib.hid hN
      clear hb hO hoq hi hll hstep hL hN HWR HT hu
      go_wp2_with (at_builtin; refine wp_appQ rfl (.tmp 21) (.tmp 28) 26 26 rfl 0 5 i0 (.int .u8 0) 1 1 (by kernel_rfl) HI0.out HZ0.out HZ1.out HZ2.out rfl _ _ _ rfl (HOQ.out.alloc _) _ 1 _ rfl (Src.ofRd (e' := 5) (by kernel_rfl) rdv_new rfl (by decide) (fun y hy => by simp at hy; rw [hy]; rfl)) HLN.out.1 HLN.out.2 (Nat.zero_le _) ?_; intro v3 w3 h1 h2 h3; obtain ⟨va3, vc3, rfl⟩ := h1.slice; (have hb3 := HO.out.blk (HB.out.alloc _) h2); (have c3 : w3.cell? ⟨a, 0, none⟩ = some (.slice va L.length vc) := hb3.cell 0); (have f3 : w3.frozen? ⟨a, 0, none⟩ = false := hb3.frozen 0); (have H1 := Lib.hid h1); (have H2 := Lib.hid h2); (have H3 := Lib.hid h3); (have HB3 := Lib.hid hb3); clear h1 h2 h3 hb3)
      have h1 := H1.out
      rw [u8v (by rw [HU.out])] at h1
      obtain ⟨hS, hQ⟩ := HO.out.step (i := 0) ((Qt.refl wr).alloc _) H2.out h1 H3.out (by intro x hx; simp at hx; omega)
      have hG2 := HG.out.trans hQ
      have hB3 := HB3.out.set 0 (.slice va3 (L.length + 1) vc3)
      go_roundw
      case rel => exact ⟨j + 1, by omega, by have := HIJ.out; go_num, by rw [HS.out]; exact WrL.fr2 ⟨_, hB3, hS⟩ HG.out.size hQ.size HLT.out, hG2⟩
      case measure => simp [intOf] <;> omega
    · obtain rfl : j = k := by omega
      have ej : (j : Int) - 1 - j = -1 := by omega
      rw [ej]
      have ht : (beB j n).take j = beB j n := List.take_of_length_le (by rw [beB_len]; exact Nat.le_refl _)
      rw [ht] at HWR
      go_wp2
      go_end0
      exact ⟨rfl, HWR.out, HG.out⟩
theorem xput_none (S : Nat → Prop) (a : Nat) (n k : Int) (w : World) (hW : WfA S w a none) :
    Calls Tryz.prog 78 #[.pointer (some ⟨a, 0, none⟩), .int .u64 n, .int .i64 k] w fun e w' =>
      e = .returned (.tuple #[]) ∧ w = w' := by
  obtain ⟨⟨sl, hb⟩, _⟩ := hW
  have c1 : w.cell? ⟨a, 1, none⟩ = some (.bool true) := hb.cell 1
  clear hb
  go_enter Tryz.func78, Tryz.ntmps78
  go_wp2
  refine bodyPost_ret (results_none rfl _ _ _) rfl ?_
  exact ⟨rfl, rfl⟩
theorem xput_any (S : Nat → Prop) (a n k : Nat) (st : Option (List Nat)) (w : World) (hW : WfA S w a st) (_hn : n < 18446744073709551616) (hk : k ≤ 8) (hl : lenO st + k ≤ 140737488355328) :
    Calls Tryz.prog 78 #[.pointer (some ⟨a, 0, none⟩), .int .u64 (n : Int), .int .i64 (k : Int)] w fun e w' =>
      e = .returned (.tuple #[]) ∧ WfA (Fr S w w') w' a (st.map (· ++ beB k n)) ∧ Gs S w w' := by
  cases st with
  | none => exact (xput_none S a n k w hW).mono (by rintro e w' ⟨rfl, rfl⟩; exact ⟨rfl, wrNone hW (Qt.refl w)⟩)
  | some l => exact xput_some S a n k l w hW hk hl
set_option maxRecDepth 100000 in
theorem xbelow1 (S : Nat → Prop) (a : Nat) (n : Int) (st : Option (List Nat)) (w : World) (hW : WfA S w a st) (hn8 : -9223372036854775808 ≤ n) (hn9 : n < 9223372036854775808) (hl : lenO st + 1 ≤ 140737488355328) :
    Calls Tryz.prog 77 #[.pointer (some ⟨a, 0, none⟩), .int .i64 n, .int .i64 1] w fun e w' =>
      e = .returned (.tuple #[]) ∧ WfA (Fr S w w') w' a (wBel 1 n st) ∧ Gs S w w' := by
  by_cases hc : BelC 1 n
  · have hc1 := hc.1
    have hc2 : n < 256 := hc.2
    obtain ⟨m, rfl⟩ := Int.eq_ofNat_of_zero_le hc1
    have e : wBel 1 (m : Int) st = st.map (· ++ beB 1 m) := by
      cases st with
      | none => rfl
      | some l => rw [wBel, if_pos hc]; rfl
    have HP := Lib.hid (xput_any S a m 1 st w hW (by omega) (by omega) hl)
    have HE := Lib.hid e
    have hm8 : m < 256 := by omega
    have hm9 : m < 9223372036854775808 := by omega
    have hwr : IntKind.u64.wrap (m : Int) = m := by rw [IntKind.wrap_u64]; omega
    clear hc hW e hc1 hn8 hn9 hc2
    go_enter Tryz.func77, Tryz.ntmps77
    go_wp2_with (go_at_call 78; refine HP.out.mono ?_; rintro e w' ⟨rfl, hw, hg⟩; (have HW := Lib.hid hw); (have HG := Lib.hid hg); clear hw hg)
    go_end0
    exact ⟨rfl, by rw [HE.out]; exact HW.out, HG.out⟩
  · have e : wBel 1 n st = none := by
      cases st with
      | none => rfl
      | some l => rw [wBel, if_neg hc]
    obtain ⟨y, sl, hb⟩ : ∃ y sl, Blk w a 38 (fV y sl) := by
      cases st with
      | none => obtain ⟨⟨sl, hb⟩, _⟩ := hW; exact ⟨_, _, hb⟩
      | some l => obtain ⟨sl, hb, _⟩ := hW; exact ⟨_, _, hb⟩
    have hme := hW.me
    have hlt := hW.lt
    have c1 : w.cell? ⟨a, 1, none⟩ = some (.bool y) := hb.cell 1
    have f1 : w.frozen? ⟨a, 1, none⟩ = false := hb.frozen 1
    have q : Og a w (w.setCell ⟨a, 1, none⟩ (.bool true)) := (Og.refl a w).setCell (.inl rfl) _
    have hw1 : WfA S (w.setCell ⟨a, 1, none⟩ (.bool true)) a none := ⟨⟨sl, hb.set 1 _⟩, hme, fun k hk => Nat.lt_of_lt_of_le (hlt k hk) q.size⟩
    have HP := Lib.hid (fun n => xput_none S a n 1 _ hw1)
    have HE := Lib.hid e
    have HW1 := Lib.hid hw1
    have HQ := Lib.hid q
    have HLT := Lib.hid hlt
    have hd : n < 0 ∨ 256 ≤ n := by unfold BelC at hc; omega
    clear hc hW e hw1 q hb hlt
    rcases hd with hd | hd
    · go_enter Tryz.func77, Tryz.ntmps77
      go_wp2_with (go_at_call 78; refine (HP.out _).mono ?_; rintro e w' ⟨rfl, rfl⟩)
      go_end0
      exact ⟨rfl, by rw [HE.out]; exact ⟨HW1.out.1, .inl hme, Fr.lt HLT.out HQ.out.size⟩, Gs.of_og HQ.out hme⟩
    · have hd0 : 0 ≤ n := by omega
      go_enter Tryz.func77, Tryz.ntmps77
      go_wp2_with (go_at_call 78; refine (HP.out _).mono ?_; rintro e w' ⟨rfl, rfl⟩)
      go_end0
      exact ⟨rfl, by rw [HE.out]; exact ⟨HW1.out.1, .inl hme, Fr.lt HLT.out HQ.out.size⟩, Gs.of_og HQ.out hme⟩
set_option maxRecDepth 100000 in
theorem xbelow2 (S : Nat → Prop) (a : Nat) (n : Int) (st : Option (List Nat)) (w : World) (hW : WfA S w a st) (hn8 : -9223372036854775808 ≤ n) (hn9 : n < 9223372036854775808) (hl : lenO st + 2 ≤ 140737488355328) :
    Calls Tryz.prog 77 #[.pointer (some ⟨a, 0, none⟩), .int .i64 n, .int .i64 2] w fun e w' =>
      e = .returned (.tuple #[]) ∧ WfA (Fr S w w') w' a (wBel 2 n st) ∧ Gs S w w' := by
  by_cases hc : BelC 2 n
  · have hc1 := hc.1
    have hc2 : n < 65536 := hc.2
    obtain ⟨m, rfl⟩ := Int.eq_ofNat_of_zero_le hc1
    have e : wBel 2 (m : Int) st = st.map (· ++ beB 2 m) := by
      cases st with
      | none => rfl
      | some l => rw [wBel, if_pos hc]; rfl
    have HP := Lib.hid (xput_any S a m 2 st w hW (by omega) (by omega) hl)
    have HE := Lib.hid e
    have hm8 : m < 65536 := by omega
    have hm9 : m < 9223372036854775808 := by omega
    have hwr : IntKind.u64.wrap (m : Int) = m := by rw [IntKind.wrap_u64]; omega
    clear hc hW e hc1 hn8 hn9 hc2
    go_enter Tryz.func77, Tryz.ntmps77
    go_wp2_with (go_at_call 78; refine HP.out.mono ?_; rintro e w' ⟨rfl, hw, hg⟩; (have HW := Lib.hid hw); (have HG := Lib.hid hg); clear hw hg)
    go_end0
    exact ⟨rfl, by rw [HE.out]; exact HW.out, HG.out⟩
  · have e : wBel 2 n st = none := by
      cases st with
      | none => rfl
      | some l => rw [wBel, if_neg hc]
    obtain ⟨y, sl, hb⟩ : ∃ y sl, Blk w a 38 (fV y sl) := by
      cases st with
      | none => obtain ⟨⟨sl, hb⟩, _⟩ := hW; exact ⟨_, _, hb⟩
      | some l => obtain ⟨sl, hb, _⟩ := hW; exact ⟨_, _, hb⟩
    have hme := hW.me
    have hlt := hW.lt
    have c1 : w.cell? ⟨a, 1, none⟩ = some (.bool y) := hb.cell 1
    have f1 : w.frozen? ⟨a, 1, none⟩ = false := hb.frozen 1
    have q : Og a w (w.setCell ⟨a, 1, none⟩ (.bool true)) := (Og.refl a w).setCell (.inl rfl) _
    have hw1 : WfA S (w.setCell ⟨a, 1, none⟩ (.bool true)) a none := ⟨⟨sl, hb.set 1 _⟩, hme, fun k hk => Nat.lt_of_lt_of_le (hlt k hk) q.size⟩
    have HP := Lib.hid (fun n => xput_none S a n 2 _ hw1)
    have HE := Lib.hid e
    have HW1 := Lib.hid hw1
    have HQ := Lib.hid q
    have HLT := Lib.hid hlt
    have hd : n < 0 ∨ 65536 ≤ n := by unfold BelC at hc; omega
    clear hc hW e hw1 q hb hlt
    rcases hd with hd | hd
    · go_enter Tryz.func77, Tryz.ntmps77
      go_wp2_with (go_at_call 78; refine (HP.out _).mono ?_; rintro e w' ⟨rfl, rfl⟩)
      go_end0
      exact ⟨rfl, by rw [HE.out]; exact ⟨HW1.out.1, .inl hme, Fr.lt HLT.out HQ.out.size⟩, Gs.of_og HQ.out hme⟩
    · have hd0 : 0 ≤ n := by omega
      go_enter Tryz.func77, Tryz.ntmps77
      go_wp2_with (go_at_call 78; refine (HP.out _).mono ?_; rintro e w' ⟨rfl, rfl⟩)
      go_end0
      exact ⟨rfl, by rw [HE.out]; exact ⟨HW1.out.1, .inl hme, Fr.lt HLT.out HQ.out.size⟩, Gs.of_og HQ.out hme⟩
set_option maxRecDepth 100000 in
theorem xbelow4 (S : Nat → Prop) (a : Nat) (n : Int) (st : Option (List Nat)) (w : World) (hW : WfA S w a st) (hn8 : -9223372036854775808 ≤ n) (hn9 : n < 9223372036854775808) (hl : lenO st + 4 ≤ 140737488355328) :
    Calls Tryz.prog 77 #[.pointer (some ⟨a, 0, none⟩), .int .i64 n, .int .i64 4] w fun e w' =>
      e = .returned (.tuple #[]) ∧ WfA (Fr S w w') w' a (wBel 4 n st) ∧ Gs S w w' := by
  by_cases hc : BelC 4 n
  · have hc1 := hc.1
    have hc2 : n < 4294967296 := hc.2
    obtain ⟨m, rfl⟩ := Int.eq_ofNat_of_zero_le hc1
    have e : wBel 4 (m : Int) st = st.map (· ++ beB 4 m) := by
      cases st with
      | none => rfl
      | some l => rw [wBel, if_pos hc]; rfl
    have HP := Lib.hid (xput_any S a m 4 st w hW (by omega) (by omega) hl)
    have HE := Lib.hid e
    have hm8 : m < 4294967296 := by omega
    have hm9 : m < 9223372036854775808 := by omega
    have hwr : IntKind.u64.wrap (m : Int) = m := by rw [IntKind.wrap_u64]; omega
    clear hc hW e hc1 hn8 hn9 hc2
    go_enter Tryz.func77, Tryz.ntmps77
    go_wp2_with (go_at_call 78; refine HP.out.mono ?_; rintro e w' ⟨rfl, hw, hg⟩; (have HW := Lib.hid hw); (have HG := Lib.hid hg); clear hw hg)
    go_end0
    exact ⟨rfl, by rw [HE.out]; exact HW.out, HG.out⟩
  · have e : wBel 4 n st = none := by
      cases st with
      | none => rfl
      | some l => rw [wBel, if_neg hc]
    obtain ⟨y, sl, hb⟩ : ∃ y sl, Blk w a 38 (fV y sl) := by
      cases st with
      | none => obtain ⟨⟨sl, hb⟩, _⟩ := hW; exact ⟨_, _, hb⟩
      | some l => obtain ⟨sl, hb, _⟩ := hW; exact ⟨_, _, hb⟩
    have hme := hW.me
    have hlt := hW.lt
    have c1 : w.cell? ⟨a, 1, none⟩ = some (.bool y) := hb.cell 1
    have f1 : w.frozen? ⟨a, 1, none⟩ = false := hb.frozen 1
    have q : Og a w (w.setCell ⟨a, 1, none⟩ (.bool true)) := (Og.refl a w).setCell (.inl rfl) _
    have hw1 : WfA S (w.setCell ⟨a, 1, none⟩ (.bool true)) a none := ⟨⟨sl, hb.set 1 _⟩, hme, fun k hk => Nat.lt_of_lt_of_le (hlt k hk) q.size⟩
    have HP := Lib.hid (fun n => xput_none S a n 4 _ hw1)
    have HE := Lib.hid e
    have HW1 := Lib.hid hw1
    have HQ := Lib.hid q
    have HLT := Lib.hid hlt
    have hd : n < 0 ∨ 4294967296 ≤ n := by unfold BelC at hc; omega
    clear hc hW e hw1 q hb hlt
    rcases hd with hd | hd
    · go_enter Tryz.func77, Tryz.ntmps77
      go_wp2_with (go_at_call 78; refine (HP.out _).mono ?_; rintro e w' ⟨rfl, rfl⟩)
      go_end0
      exact ⟨rfl, by rw [HE.out]; exact ⟨HW1.out.1, .inl hme, Fr.lt HLT.out HQ.out.size⟩, Gs.of_og HQ.out hme⟩
    · have hd0 : 0 ≤ n := by omega
      go_enter Tryz.func77, Tryz.ntmps77
      go_wp2_with (go_at_call 78; refine (HP.out _).mono ?_; rintro e w' ⟨rfl, rfl⟩)
      go_end0
      exact ⟨rfl, by rw [HE.out]; exact ⟨HW1.out.1, .inl hme, Fr.lt HLT.out HQ.out.size⟩, Gs.of_og HQ.out hme⟩
theorem xbelow_any (S : Nat → Prop) (a k : Nat) (n : Int) (st : Option (List Nat)) (w : World) (hW : WfA S w a st) (hk : (k = 1 ∨ k = 2 ∨ k = 4) ∧ -9223372036854775808 ≤ n) (hn9 : n < 9223372036854775808) (hl : lenO st + k ≤ 140737488355328) :
    Calls Tryz.prog 77 #[.pointer (some ⟨a, 0, none⟩), .int .i64 n, .int .i64 (k : Int)] w fun e w' =>
      e = .returned (.tuple #[]) ∧ WfA (Fr S w w') w' a (wBel k n st) ∧ Gs S w w' := by
  obtain ⟨hk, hn8⟩ := hk
  rcases hk with rfl | rfl | rfl
  · exact xbelow1 S a n st w hW hn8 hn9 hl
  · exact xbelow2 S a n st w hW hn8 hn9 hl
  · exact xbelow4 S a n st w hW hn8 hn9 hl
end Go.Proofs.YtajkmblcphdnbaaGreat
