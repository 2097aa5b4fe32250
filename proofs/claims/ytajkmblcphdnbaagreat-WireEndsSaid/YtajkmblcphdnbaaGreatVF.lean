import Derived.Test.YtajkmblcphdnbaaGreatVE
/-! The reference's writer's calls: printed by genwr.py. -/
namespace Go.Proofs.YtajkmblcphdnbaaGreat
open Go.RowKit
set_option linter.unusedVariables false
set_option linter.unusedSimpArgs false

theorem xU8_any (S : Nat → Prop) (a : Nat) (n : Int) (st : Option (List Nat)) (w : World) (hW : WfA S w a st) (hn8 : -9223372036854775808 ≤ n) (hn9 : n < 9223372036854775808) (hl : lenO st + 1 ≤ 140737488355328) :
    Calls Tryz.prog 32 #[.pointer (some ⟨a, 0, none⟩), .int .i64 n] w fun e w' => e = .returned (.tuple #[]) ∧ WfA (Fr S w w') w' a (wBel 1 n st) ∧ Gs S w w' := by
  have HN := Lib.hid (xbelow_any S a 1 n st w hW (by omega) (by omega) hl)
  clear hW hl
  go_enter Tryz.func32, Tryz.ntmps32
  go_wp2_with (go_at_call 77; refine HN.out.mono ?_; rintro e w' ⟨rfl, hw, hg⟩; (have HW := Lib.hid hw); (have HG := Lib.hid hg); clear hw hg)
  go_end0
  exact ⟨rfl, HW.out, HG.out⟩
theorem xU16_any (S : Nat → Prop) (a : Nat) (n : Int) (st : Option (List Nat)) (w : World) (hW : WfA S w a st) (hn8 : -9223372036854775808 ≤ n) (hn9 : n < 9223372036854775808) (hl : lenO st + 2 ≤ 140737488355328) :
    Calls Tryz.prog 33 #[.pointer (some ⟨a, 0, none⟩), .int .i64 n] w fun e w' => e = .returned (.tuple #[]) ∧ WfA (Fr S w w') w' a (wBel 2 n st) ∧ Gs S w w' := by
  have HN := Lib.hid (xbelow_any S a 2 n st w hW (by omega) (by omega) hl)
  clear hW hl
  go_enter Tryz.func33, Tryz.ntmps33
  go_wp2_with (go_at_call 77; refine HN.out.mono ?_; rintro e w' ⟨rfl, hw, hg⟩; (have HW := Lib.hid hw); (have HG := Lib.hid hg); clear hw hg)
  go_end0
  exact ⟨rfl, HW.out, HG.out⟩
theorem xU32_any (S : Nat → Prop) (a : Nat) (n : Int) (st : Option (List Nat)) (w : World) (hW : WfA S w a st) (hn8 : -9223372036854775808 ≤ n) (hn9 : n < 9223372036854775808) (hl : lenO st + 4 ≤ 140737488355328) :
    Calls Tryz.prog 34 #[.pointer (some ⟨a, 0, none⟩), .int .i64 n] w fun e w' => e = .returned (.tuple #[]) ∧ WfA (Fr S w w') w' a (wBel 4 n st) ∧ Gs S w w' := by
  have HN := Lib.hid (xbelow_any S a 4 n st w hW (by omega) (by omega) hl)
  clear hW hl
  go_enter Tryz.func34, Tryz.ntmps34
  go_wp2_with (go_at_call 77; refine HN.out.mono ?_; rintro e w' ⟨rfl, hw, hg⟩; (have HW := Lib.hid hw); (have HG := Lib.hid hg); clear hw hg)
  go_end0
  exact ⟨rfl, HW.out, HG.out⟩
theorem xU64_any (S : Nat → Prop) (a n : Nat) (st : Option (List Nat)) (w : World) (hW : WfA S w a st) (hn : n < 18446744073709551616) (hl : lenO st + 8 ≤ 140737488355328) :
    Calls Tryz.prog 35 #[.pointer (some ⟨a, 0, none⟩), .int .u64 (n : Int)] w fun e w' => e = .returned (.tuple #[]) ∧ WfA (Fr S w w') w' a (st.map (· ++ beB 8 n)) ∧ Gs S w w' := by
  have HN := Lib.hid (xput_any S a n 8 st w hW hn (by omega) hl)
  clear hW hl
  go_enter Tryz.func35, Tryz.ntmps35
  go_wp2_with (go_at_call 78; refine HN.out.mono ?_; rintro e w' ⟨rfl, hw, hg⟩; (have HW := Lib.hid hw); (have HG := Lib.hid hg); clear hw hg)
  go_end0
  exact ⟨rfl, HW.out, HG.out⟩
set_option maxRecDepth 100000 in
theorem xI64_any (S : Nat → Prop) (a n : Nat) (st : Option (List Nat)) (w : World) (hW : WfA S w a st) (hn : n < 18446744073709551616) (hl : lenO st + 8 ≤ 140737488355328) :
    Calls Tryz.prog 36 #[.pointer (some ⟨a, 0, none⟩), .int .i64 (wrap64 (n : Int))] w fun e w' => e = .returned (.tuple #[]) ∧ WfA (Fr S w w') w' a (st.map (· ++ beB 8 n)) ∧ Gs S w w' := by
  have HN := Lib.hid (xput_any S a n 8 st w hW hn (by omega) hl)
  have he := u64_of_i64 n hn
  have HC : ∀ w, (convert 2 23 (.int .i64 (wrap64 (n : Int)))).run Tryz.prog w = .ok (.int .u64 (n : Int)) w := fun w => by rw [run_convert_int (P := Tryz.prog) (w := w) 2 23 .i64 _ (by kernel_rfl) (by kernel_rfl), show Tryz.prog.intKind 23 = .u64 from by kernel_rfl, he]
  obtain ⟨m, hm⟩ : ∃ m, m = wrap64 (n : Int) := ⟨_, rfl⟩
  rw [← hm] at HC ⊢
  clear hW hl he hm
  go_enter Tryz.func36, Tryz.ntmps36
  go_wp2_with (first
    | (refine wp_conv rfl 2 23 (.tmp 5) rfl _ rfl (fun v' w' => v' = .int .u64 (n : Int) ∧ w = w') ⟨_, _, HC _, rfl, rfl⟩ ?_; rintro v' w' ⟨rfl, rfl⟩)
    | (go_at_call 78; refine HN.out.mono ?_; rintro e w' ⟨rfl, hw, hg⟩; (have HW := Lib.hid hw); (have HG := Lib.hid hg); clear hw hg))
  go_end0
  exact ⟨rfl, HW.out, HG.out⟩
set_option maxRecDepth 100000 in
theorem xRaw_any (S : Nat → Prop) (a : Nat) (v : Value) (b : List Nat) (st : Option (List Nat)) (w : World) (hW : WfA S w a st) (hs : Rd w v b.length (u8s b)) (h8 : ∀ x ∈ b, x < 256) (hl : lenO st + b.length ≤ 140737488355328) :
    Calls Tryz.prog 38 #[.pointer (some ⟨a, 0, none⟩), v] w fun e w' => e = .returned (.tuple #[]) ∧ WfA (Fr S w w') w' a (st.map (· ++ b)) ∧ Gs S w w' := by
  cases st with
  | none =>
    obtain ⟨⟨sl, hb⟩, hme, hlt⟩ := hW
    have c1 : w.cell? ⟨a, 1, none⟩ = some (.bool true) := hb.cell 1
    have HW := Lib.hid (show WfA S w a none from ⟨⟨sl, hb⟩, hme, hlt⟩)
    clear hb hs
    go_enter Tryz.func38, Tryz.ntmps38
    go_wp2
    go_end0
    exact ⟨rfl, wrNone HW.out (Qt.refl w)⟩
  | some l =>
    obtain ⟨i0, hi0, hz0, hz1, hz2⟩ := info_parts (P := Tryz.prog) (e := 5) (z := .int .u8 0) (size := 1) (bytes := 1) (by kernel_rfl)
    have HI0 := Lib.hid hi0
    have HZ0 := Lib.hid hz0
    have HZ1 := Lib.hid hz1
    have HZ2 := Lib.hid hz2
    clear hi0 hz0 hz1 hz2
    obtain ⟨sl, hb, hO⟩ := hW
    have c1 : w.cell? ⟨a, 1, none⟩ = some (.bool false) := hb.cell 1
    have c2 : w.cell? ⟨a, 0, none⟩ = some sl := hb.cell 0
    have hoq := hO.oq
    have hl' : l.length + b.length ≤ 140737488355328 := hl
    obtain ⟨va, vc, rfl⟩ := hoq.slice
    have HB := Lib.hid hb
    have HO := Lib.hid hO
    have HOQ := Lib.hid hoq
    have HSS := Lib.hid hs
    have HLN := Lib.hid (show l.length + b.length ≤ maxLen ∧ (l.length + b.length) * 1 ≤ 140737488355328 from by unfold maxLen; omega)
    obtain ⟨vb, vd, rfl, _⟩ := hs
    clear hb hO hoq hl
    go_enter Tryz.func38, Tryz.ntmps38
    go_wp2_with (first
        | (at_builtin; refine wp_appQ rfl (.tmp 13) (.tmp 14) 26 26 rfl 0 5 i0 (.int .u8 0) 1 1 (by kernel_rfl) HI0.out HZ0.out HZ1.out HZ2.out rfl _ _ _ rfl HOQ.out _ b.length (u8s b) rfl (Src.ofRd (e' := 5) (by kernel_rfl) HSS.out (by rw [u8s_len, Nat.mul_one]) (by decide) (u8s_one1 b)) HLN.out.1 HLN.out.2 (Nat.zero_le _) ?_; intro v3 w3 h1 h2 h3; obtain ⟨va3, vc3, rfl⟩ := h1.slice; (have hb3 := HO.out.blk HB.out h2); (have c3 : w3.cell? ⟨a, 0, none⟩ = some (.slice va l.length vc) := hb3.cell 0); (have f3 : w3.frozen? ⟨a, 0, none⟩ = false := hb3.frozen 0); (have H1 := Lib.hid h1); (have H2 := Lib.hid h2); (have H3 := Lib.hid h3); (have HB3 := Lib.hid hb3); clear h1 h2 h3 hb3))
    go_end0
    obtain ⟨hS, hQ⟩ := HO.out.step (i := 0) (Qt.refl w) H2.out H1.out H3.out h8
    exact ⟨rfl, ⟨_, HB3.out.set 0 _, hS⟩, hQ⟩
theorem xHash_any (S : Nat → Prop) (a : Nat) (h : List Nat) (st : Option (List Nat)) (w : World) (hW : WfA S w a st) (hh : h.length = 32) (h8 : ∀ x ∈ h, x < 256) (hl : lenO st + 32 ≤ 140737488355328) :
    Calls Tryz.prog 37 #[.pointer (some ⟨a, 0, none⟩), .agg (u8s h).toArray] w fun e w' => e = .returned (.tuple #[]) ∧ WfA (Fr S w w') w' a (st.map (· ++ h)) ∧ Gs S w w' := by
  have HR := fun w1 (q : Qt w w1) v (hs : Rd w1 v h.length (u8s h)) => xRaw_any S a v h st w1 (hW.qt q) hs h8 (by rw [hh]; exact hl)
  have hlt := hW.lt
  have HLT := Lib.hid hlt
  have H32 := Lib.hid hh
  have HRR := Lib.hid HR
  clear hW hl HR hlt hh
  go_enter Tryz.func37, Tryz.ntmps37
  go_wp2_with (first
    | (go_at_call 38; refine (HRR.out _ ((Qt.refl w).alloc _) _ (rd_row H32.out)).mono ?_; rintro e w' ⟨rfl, hw, hg⟩; (have HW := Lib.hid hw); (have HG := Lib.hid hg); clear hw hg))
  go_end0
  exact ⟨rfl, fr_alloc HW.out HG.out HLT.out⟩
set_option maxRecDepth 100000 in
theorem xText_any (S : Nat → Prop) (a : Nat) (b : List Nat) (st : Option (List Nat)) (w : World) (hW : WfA S w a st) (h8 : ∀ x ∈ b, x < 256) (hb9 : b.length ≤ 140737488351232) (hl : lenO st + 2 + b.length ≤ 140737488355328) :
    Calls Tryz.prog 39 #[.pointer (some ⟨a, 0, none⟩), .string (str b)] w fun e w' => e = .returned (.tuple #[]) ∧ WfA (Fr S w w') w' a ((wBel 2 (b.length : Int) st).map (· ++ b)) ∧ Gs S w w' := by
  have HN := Lib.hid (xU16_any S a (b.length : Int) st w hW (by omega) (by omega) (by omega))
  have hlt := hW.lt
  have hln : lenO (wBel 2 (b.length : Int) st) + b.length ≤ 140737488355328 := by have := lenO_wBel 2 (b.length : Int) st; omega
  have HR := Lib.hid (fun w1 S1 (h1 : WfA S1 w1 a (wBel 2 (b.length : Int) st)) v (hs : Rd w1 v b.length (u8s b)) => xRaw_any S1 a v b _ w1 h1 hs h8 hln)
  have HLT := Lib.hid hlt
  have H8 := Lib.hid h8
  have hsz : (str b).size = b.length := str_size b
  have HSZ := Lib.hid hsz
  obtain ⟨s, hs⟩ : ∃ s, s = str b := ⟨_, rfl⟩
  rw [← hs] at hsz ⊢
  have HS := Lib.hid hs
  have hsz9 : s.size ≤ 140737488351232 := by omega
  have HE : (Value.int .i64 (s.size : Int)) = .int .i64 (b.length : Int) := by rw [hsz]
  have HEE := Lib.hid HE
  clear hW hl hlt hln hs h8 hsz HE hb9
  go_enter Tryz.func39, Tryz.ntmps39
  go_wp2_with (first
    | (go_at_call 33; rw [HEE.out]; refine HN.out.mono ?_; rintro e w1 ⟨rfl, hw, hg⟩; (have HW := Lib.hid hw); (have HG := Lib.hid hg); clear hw hg)
    | (refine wp_conv rfl 9 26 (.tmp 9) rfl _ rfl (fun v' w' => Rd w' v' b.length (u8s b) ∧ Qt w1 w') (by rw [HS.out]; exact conv_bytes 9 26 5 (by kernel_rfl) (by kernel_rfl) (by kernel_rfl) b H8.out w1) ?_; rintro v2 w2 ⟨hr2, hq2⟩; (have HR2 := Lib.hid hr2); (have HQ2 := Lib.hid hq2); obtain ⟨vb, vd, rfl, _⟩ := hr2; clear hq2)
    | (go_at_call 38; refine (HR.out _ _ (WrL.qt HW.out HQ2.out) _ HR2.out).mono ?_; rintro e w3 ⟨rfl, hw, hg⟩; (have HW3 := Lib.hid hw); (have HG3 := Lib.hid hg); clear hw hg))
  go_end0
  exact ⟨rfl, fr_chain HW3.out HG.out HQ2.out HG3.out HLT.out⟩
theorem xFlag_any (S : Nat → Prop) (a : Nat) (is : Bool) (st : Option (List Nat)) (w : World) (hW : WfA S w a st) (hl : lenO st + 1 ≤ 140737488355328) :
    Calls Tryz.prog 40 #[.pointer (some ⟨a, 0, none⟩), .bool is] w fun e w' => e = .returned (.tuple #[]) ∧ WfA (Fr S w w') w' a (wBel 1 (if is then 1 else 0) st) ∧ Gs S w w' := by
  cases is with
  | false =>
    have HF := Lib.hid (xU8_any S a 0 st w hW (by omega) (by omega) hl)
    clear hW hl
    go_enter Tryz.func40, Tryz.ntmps40
    go_wp2_with (go_at_call 32; refine HF.out.mono ?_; rintro e w' ⟨rfl, hw, hg⟩; (have HW := Lib.hid hw); (have HG := Lib.hid hg); clear hw hg)
    go_end0
    exact ⟨rfl, HW.out, HG.out⟩
  | true =>
    have HF := Lib.hid (xU8_any S a 1 st w hW (by omega) (by omega) hl)
    clear hW hl
    go_enter Tryz.func40, Tryz.ntmps40
    go_wp2_with (go_at_call 32; refine HF.out.mono ?_; rintro e w' ⟨rfl, hw, hg⟩; (have HW := Lib.hid hw); (have HG := Lib.hid hg); clear hw hg)
    go_end0
    exact ⟨rfl, HW.out, HG.out⟩
theorem xSpoil_any (S : Nat → Prop) (a : Nat) (st : Option (List Nat)) (w : World) (hW : WfA S w a st) :
    Calls Tryz.prog 41 #[.pointer (some ⟨a, 0, none⟩)] w fun e w' => e = .returned (.tuple #[]) ∧ WfA (Fr S w w') w' a none ∧ Gs S w w' := by
  obtain ⟨y, sl, hb⟩ : ∃ y sl, Blk w a 38 (fV y sl) := by
    cases st with
    | none => obtain ⟨⟨sl, hb⟩, _⟩ := hW; exact ⟨_, _, hb⟩
    | some l => obtain ⟨sl, hb, _⟩ := hW; exact ⟨_, _, hb⟩
  have hme := hW.me
  have hlt := hW.lt
  have c1 : w.cell? ⟨a, 1, none⟩ = some (.bool y) := hb.cell 1
  have f1 : w.frozen? ⟨a, 1, none⟩ = false := hb.frozen 1
  have HB := Lib.hid hb
  have HLT := Lib.hid hlt
  clear hb hW hlt
  go_enter Tryz.func41, Tryz.ntmps41
  go_wp2
  go_end0
  have q : Og a w (w.setCell ⟨a, 1, none⟩ (.bool true)) := (Og.refl a w).setCell (.inl rfl) _
  exact ⟨rfl, ⟨⟨sl, HB.out.set 1 _⟩, .inl hme, Fr.lt HLT.out q.size⟩, Gs.of_og q hme⟩
set_option maxRecDepth 100000 in
theorem xBytes_any (S : Nat → Prop) (a : Nat) (st : Option (List Nat)) (w : World) (hW : WfA S w a st) (hl : lenO st ≤ 140737488355328) :
    Calls Tryz.prog 12 #[.pointer (some ⟨a, 0, none⟩)] w fun e w' => ∃ v, e = .returned (.tuple #[v, .int .i64 (if st.isSome then 0 else 2)]) ∧ OQ w' w.heap.size 1 v (st.getD []).length (u8s (st.getD [])) ∧ Qt w w' := by
  cases st with
  | none =>
    obtain ⟨⟨sl, hb⟩, _⟩ := hW
    have c1 : w.cell? ⟨a, 1, none⟩ = some (.bool true) := hb.cell 1
    clear hb
    go_enter Tryz.func12, Tryz.ntmps12
    go_wp2
    go_ret2
    exact ⟨_, rfl, OQ.nil _ _ _, Qt.refl _⟩
  | some l =>
    obtain ⟨i0, hi0, hz0, hz1, hz2⟩ := info_parts (P := Tryz.prog) (e := 5) (z := .int .u8 0) (size := 1) (bytes := 1) (by kernel_rfl)
    have HI0 := Lib.hid hi0
    have HZ0 := Lib.hid hz0
    have HZ1 := Lib.hid hz1
    have HZ2 := Lib.hid hz2
    clear hi0 hz0 hz1 hz2
    obtain ⟨sl, hb, hO⟩ := hW
    have c0 : ∀ o, (w.alloc o).cell? ⟨a, 0, none⟩ = some sl := fun o => (hb.alloc o).cell 0
    have c1 : w.cell? ⟨a, 1, none⟩ = some (.bool false) := hb.cell 1
    have hl' : l.length ≤ 140737488355328 := hl
    have HV := Lib.hid (Rd.of_OQ hO.oq)
    obtain ⟨va, vc, rfl⟩ := hO.oq.slice
    clear hb hO hl
    go_enter Tryz.func12, Tryz.ntmps12
    go_wp2_with (at_builtin; go_must (refine wp_appQ rfl (.tmp 8) (.tmp 12) 26 26 rfl w.heap.size 5 i0 (.int .u8 0) 1 1 (by kernel_rfl) HI0.out HZ0.out HZ1.out HZ2.out rfl _ 0 [] rfl (OQ.emptyNew (Nat.le_refl _)) _ l.length (u8s l) rfl (Src.ofRd (e' := 5) (by kernel_rfl) (HV.out.below ((Qt.refl w).alloc _)) (by rw [u8s_len, Nat.mul_one]) (by decide) (u8s_one1 l)) (by unfold maxLen; omega) (by omega) (by simp) ?_); intro v2 w2 h1 h2 h3; rw [Nat.zero_add, List.nil_append] at h1; (have hb2 := below_app (hb := (Below.refl w.heap.size w).alloc (Nat.le_refl _) _) (OQ.emptyNew (Nat.le_refl _)) h2); obtain ⟨a2, c2, rfl⟩ := h1.slice; (have H1 := Lib.hid h1); (have HB2 := Lib.hid hb2); clear h1 h2 h3 hb2)
    go_ret2
    exact ⟨_, rfl, H1.out, HB2.out⟩
end Go.Proofs.YtajkmblcphdnbaaGreat
