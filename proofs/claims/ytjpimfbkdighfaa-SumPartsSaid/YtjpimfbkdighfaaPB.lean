import Derived.Test.YtjpimfbkdighfaaPA
import Derived.Test.YtjpimfbkdighfaaT
import Derived.Deep.DeepCutAuto
namespace Go.Proofs.Ytjpimfbkdighfaa
open Go.RowKit
set_option linter.unusedSimpArgs false
set_option linter.unusedVariables false

set_option maxRecDepth 100000 in
set_option maxHeartbeats 6000000 in
theorem parts_walk (b : List Nat) (zs : List Int) (l : List (List Nat)) (v1 v2 v3 : Value) (w : World) (hb : Rd w v1 b.length (u8s b)) (hb256 : ∀ x ∈ b, x < 256) (hbl : b.length ≤ 140737488351232)
    (hf : ∀ a n c, v1 = .slice a n c → n ≤ c ∧ c ≤ 9223372036854775807 ∧ (a = none → c = 0)) (hz : Rd w v2 zs.length (zs.map (Value.int .i64))) (hzw : ∀ n ∈ zs, (Lit.int .i64 n).wf = true) (hzl : zs.length ≤ 9223372036854775807) (hl : Hs w v3 l) (hll : l.length ≤ 9223372036854775807) :
    Calls Try.prog 5 #[v1, v2, v3] w fun e w' => e = .returned (.bool true) ∧ Qt w w' := by
  obtain ⟨a1, c1, rfl⟩ : ∃ a c, v1 = .slice a b.length c := by obtain ⟨a, c, h, _⟩ := hb; exact ⟨a, c, h⟩
  obtain ⟨a2, c2, rfl, hc2, h2⟩ : ∃ a c, v2 = .slice a zs.length c ∧ zs.length ≤ c ∧ (zs = [] ∨ ∃ B off, a = some ⟨B, off, none⟩ ∧ ∀ j u, (zs.map (Value.int .i64))[j]? = some u → w.cell? ⟨B, off + j, none⟩ = some u) := by
    obtain ⟨a, c, h, hc, h0 | h0⟩ := hz
    · exact ⟨a, c, h, hc, .inl (by simpa using h0)⟩
    · exact ⟨a, c, h, hc, .inr h0⟩
  obtain ⟨a3, c3, rfl⟩ : ∃ a c, v3 = .slice a l.length c := by obtain ⟨a, c, h, _⟩ := hl.rd; exact ⟨a, c, h⟩
  obtain ⟨hbc, hcm, hnone⟩ := hf _ _ _ rfl
  have HZ := Lib.hid h2
  have HB := Lib.hid hb
  have HB256 := Lib.hid hb256
  have HL := Lib.hid hl
  have HNONE := Lib.hid hnone
  have HZW := Lib.hid hzw
  clear h2 hb hb256 hl hnone hf hz hzw
  go_enter Try.func5, Try.ntmps5
  go_wp2_with (go_at_call 8; refine (awake_any _).mono ?_; rintro e w1 ⟨rfl, q1⟩; (have Q1 := Lib.hid q1); clear q1)
  refine (great_any [b] _ _ (parts_one (by simp) (HB.out.below Q1.out) HB256.out) (by simp) (fun x hx => by rw [List.mem_singleton.1 hx]; exact hbl)).mono ?_
  rintro e w2 ⟨bb, rfl, hbb, rfl⟩
  have HBB := Lib.hid hbb
  clear hbb
  cases bb with
  | true =>
    go_wp2
    go_ret
    exact ⟨rfl, Q1.out.alloc _⟩
  | false =>
    have hb3 := HBB.out rfl
    simp at hb3
    by_cases hz40 : zs.length ≤ 40
    · have d1 : decide (40 < (zs.length : Int)) = false := by simp; omega
      by_cases hl40 : l.length ≤ 40
      · have d2 : decide (40 < (l.length : Int)) = false := by simp; omega
        obtain ⟨i0, hi0, hz0, hz1, hz2⟩ := info_parts (P := Try.prog) (e := 38) (z := .slice none 0 0) (size := 1) (bytes := 24) (by kernel_rfl)
        have HJ0 := Lib.hid hi0
        have HY0 := Lib.hid hz0
        have HY1 := Lib.hid hz1
        have HY2 := Lib.hid hz2
        clear hi0 hz0 hz1 hz2
        have hqs := Lib.hid (show Qt w (w1.alloc (.cells #[.slice a1 b.length c1] 38)) from Q1.out.alloc _)
        go_wp2_with fail
        generalize w1.alloc (Obj.cells #[Value.slice a1 b.length c1] 38) = ws at *
        clear Q1
        go_loopg [7, 8, 9] (zs.length) (fun n r atv i wr => ∃ k at' vs, n + k = zs.length ∧ i = .int .i64 (k : Nat) ∧ atv = .int .i64 (at' : Nat) ∧ at' ≤ b.length ∧ Pcs w w.heap.size wr r b k at' vs ∧ Qt w wr)
        case atStart => exact ⟨0, 0, [], rfl, rfl, rfl, Nat.zero_le _, ⟨OQ.nil _ _ _, (fun u hu => by cases hu), [], rfl, (fun j x hx => by simp at hx), rfl, (fun x hx => by cases hx)⟩, hqs.out⟩
        case round =>
          obtain ⟨k, at', vs, hgk, rfl, rfl, hat, hp, hq⟩ := hrel
          obtain ⟨ra, rc, rfl⟩ := hp.oq.slice
          have HG := Lib.hid hgk
          have HP := Lib.hid hp
          have HQ := Lib.hid hq
          clear hgk hp hq
          by_cases hk : k < zs.length
          · obtain ⟨z, hz⟩ : ∃ z, z = zs[k] := ⟨_, rfl⟩
            obtain ⟨ZB, zo, rfl, hzc⟩ : ∃ B off, a2 = some ⟨B, off, none⟩ ∧ w.cell? ⟨B, off + k, none⟩ = some (.int .i64 z) := by
              rcases HZ.out with h0 | ⟨B, off, rfl, h⟩
              · rw [h0] at hk; simp at hk
              · exact ⟨B, off, rfl, h k _ (by rw [List.getElem?_map, List.getElem?_eq_getElem hk, hz]; rfl)⟩
            have c0 : wr.cell? ⟨ZB, zo + k, none⟩ = some (.int .i64 z) := (HQ.out.cell (p := ⟨ZB, zo + k, none⟩) (blk_of_cell hzc)).trans hzc
            obtain ⟨lf, hlf⟩ : ∃ lf : Nat, lf = b.length - at' := ⟨_, rfl⟩
            have e1 : (b.length : Int) - (at' : Int) = (lf : Int) := by omega
            have hlf2 : at' + lf = b.length := by omega
            have HLF := Lib.hid hlf2
            have ht := @tmod_lt z lf
            have hlfb : lf ≤ 140737488351232 := by omega
            clear hz hzc hlf hlf2
            go_upto_if 42 with (fail)
            go_cut [10] (fun x wx => ∃ m : Nat, m ≤ lf ∧ x = .int .i64 (m : Nat) ∧ wx = wr)
            case first =>
              by_cases h0 : 0 < lf
              · have d3 : (0 : Int) < (lf : Int) := by omega
                obtain ⟨r, hr⟩ : ∃ r, r = z.tmod ((lf : Int) + 1) := ⟨_, rfl⟩
                rw [← hr] at ht
                obtain ⟨t1, t2⟩ := ht
                have hr2 := hr.symm
                clear hr
                by_cases hr0 : r < 0
                · go_wp2
                  go_meet
                  case rel => exact ⟨(r + lf + 1).toNat, by omega, congrArg (Value.int .i64) (by omega), rfl⟩
                · go_wp2
                  go_meet
                  case rel => exact ⟨r.toNat, by omega, congrArg (Value.int .i64) (by omega), rfl⟩
              · have d3 : ¬ (0 : Int) < (lf : Int) := by omega
                go_wp2
                go_meet
                case rel => exact ⟨0, by omega, rfl, rfl⟩
            case rest =>
              obtain ⟨m, hm, rfl, rfl⟩ := hcut
              by_cases hb0 : b.length = 0
              · obtain rfl : at' = 0 := by omega
                obtain rfl : m = 0 := by have := HLF.out; omega
                clear hb0
                cases ha1 : a1 with
                | none =>
                  obtain rfl : c1 = 0 := HNONE.out ha1
                  subst ha1
                  go_wp2_with (at_builtin; go_must (refine wp_appQ rfl (.tmp 56) (.tmp 63) 22 22 rfl w.heap.size 38 i0 (.slice none 0 0) 1 24 (by kernel_rfl) HJ0.out HY0.out HY1.out HY2.out rfl _ k vs rfl (HP.out.oq.alloc _) _ 1 [.slice none 0 0] rfl (Src.ofRd (e' := 38) (by kernel_rfl) rdv_new rfl (by decide) (fun y hy => by rw [List.mem_singleton.1 hy]; rfl)) (by unfold maxLen; omega) (by omega) (Nat.le_trans HQ.out.size (by simp)) ?_); intro v4 w4 h1 h2 h3; (have hb4 := below_app (hb := Below.alloc HQ.out HQ.out.size _) (HP.out.oq.alloc _) h2); (have H1 := Lib.hid h1); (have HB4 := Lib.hid hb4); clear h1 h2 h3 hb4)
                  go_roundg (gk - 1)
                  case measure => have := HG.out; omega
                  case rel => exact ⟨k + 1, 0, vs ++ [.slice none 0 0], by have := HG.out; omega, by go_num, rfl, by have := HLF.out; omega, Pcs.snoc HP.out H1.out (Rd.none _ _) (by rw [List.append_nil]) (fun y hy => by cases hy), HB4.out⟩
                | some ad =>
                  subst ha1
                  go_wp2_with (at_builtin; go_must (refine wp_appQ rfl (.tmp 56) (.tmp 63) 22 22 rfl w.heap.size 38 i0 (.slice none 0 0) 1 24 (by kernel_rfl) HJ0.out HY0.out HY1.out HY2.out rfl _ k vs rfl (HP.out.oq.alloc _) _ 1 [.slice (some ad) 0 c1] rfl (Src.ofRd (e' := 38) (by kernel_rfl) rdv_new rfl (by decide) (fun y hy => by rw [List.mem_singleton.1 hy]; rfl)) (by unfold maxLen; omega) (by omega) (Nat.le_trans HQ.out.size (by simp)) ?_); intro v4 w4 h1 h2 h3; (have hb4 := below_app (hb := Below.alloc HQ.out HQ.out.size _) (HP.out.oq.alloc _) h2); (have H1 := Lib.hid h1); (have HB4 := Lib.hid hb4); clear h1 h2 h3 hb4)
                  go_roundg (gk - 1)
                  case measure => have := HG.out; omega
                  case rel => exact ⟨k + 1, 0, vs ++ [.slice (some ad) 0 c1], by have := HG.out; omega, by go_num, rfl, by have := HLF.out; omega, Pcs.snoc HP.out H1.out (Rd.none _ _) (by rw [List.append_nil]) (fun y hy => by cases hy), HB4.out⟩
              · obtain ⟨B, off, rfl⟩ : ∃ B off, a1 = some ⟨B, off, none⟩ := by
                  obtain ⟨a, c, h, _, h0 | ⟨B, off, h1, _⟩⟩ := HB.out
                  · exact absurd (by have := congrArg List.length h0; simpa [u8s] using this) hb0
                  · cases h; exact ⟨B, off, h1⟩
                have i1 : (0 : Int) ≤ (at' : Int) := by omega
                have hml : at' + m ≤ b.length := by have := HLF.out; omega
                have i2 : (at' : Int) + (m : Int) ≤ (c1 : Int) := by omega
                have hrd := HB.out.cut (at' := at') (m := m) (by omega) rfl
                have hfl : b.take at' ++ (b.drop at').take m = b.take (at' + m) := by rw [List.take_add]
                have HRD := Lib.hid hrd
                have HFL := Lib.hid hfl
                clear hrd hfl
                by_cases hcc : c1 = at'
                · obtain rfl : m = 0 := by omega
                  subst hcc
                  go_wp2_with (at_builtin; go_must (refine wp_appQ rfl (.tmp 56) (.tmp 63) 22 22 rfl w.heap.size 38 i0 (.slice none 0 0) 1 24 (by kernel_rfl) HJ0.out HY0.out HY1.out HY2.out rfl _ k vs rfl (HP.out.oq.alloc _) _ 1 [.slice (some ⟨B, off, none⟩) 0 0] rfl (Src.ofRd (e' := 38) (by kernel_rfl) rdv_new rfl (by decide) (fun y hy => by rw [List.mem_singleton.1 hy]; rfl)) (by unfold maxLen; omega) (by omega) (Nat.le_trans HQ.out.size (by simp)) ?_); intro v4 w4 h1 h2 h3; (have hb4 := below_app (hb := Below.alloc HQ.out HQ.out.size _) (HP.out.oq.alloc _) h2); (have H1 := Lib.hid h1); (have HB4 := Lib.hid hb4); clear h1 h2 h3 hb4)
                  go_roundg (gk - 1)
                  case measure => have := HG.out; omega
                  case rel => exact ⟨k + 1, c1, vs ++ [.slice (some ⟨B, off, none⟩) 0 0], by have := HG.out; omega, by go_num, by go_num, by have := HLF.out; omega, Pcs.snoc HP.out H1.out (Rd.none _ _) (by rw [List.append_nil]) (fun y hy => by cases hy), HB4.out⟩
                · have hcc2 : ¬ at' = c1 := fun h => hcc h.symm
                  go_wp2_with (at_builtin; go_must (refine wp_appQ rfl (.tmp 56) (.tmp 63) 22 22 rfl w.heap.size 38 i0 (.slice none 0 0) 1 24 (by kernel_rfl) HJ0.out HY0.out HY1.out HY2.out rfl _ k vs rfl (HP.out.oq.alloc _) _ 1 [.slice (some ⟨B, off + at', none⟩) m (c1 - at')] rfl (Src.ofRd (e' := 38) (by kernel_rfl) rdv_new rfl (by decide) (fun y hy => by rw [List.mem_singleton.1 hy]; rfl)) (by unfold maxLen; omega) (by omega) (Nat.le_trans HQ.out.size (by simp)) ?_); intro v4 w4 h1 h2 h3; (have hb4 := below_app (hb := Below.alloc HQ.out HQ.out.size _) (HP.out.oq.alloc _) h2); (have H1 := Lib.hid h1); (have HB4 := Lib.hid hb4); clear h1 h2 h3 hb4)
                  go_roundg (gk - 1)
                  case measure => have := HG.out; omega
                  case rel => exact ⟨k + 1, at' + m, vs ++ [.slice (some ⟨B, off + at', none⟩) m (c1 - at')], by have := HG.out; omega, by go_num, by go_num, by have := HLF.out; omega, Pcs.snoc HP.out H1.out HRD.out HFL.out (fun y hy => List.mem_of_mem_drop (List.mem_of_mem_take hy)), HB4.out⟩
          · obtain rfl : k = zs.length := by have := HG.out; omega
            clear HG
            go_upto_region 18 with (fail)
            go_cut [7] (fun r wx => ∃ xss, Parts wx r xss ∧ xss.flatten = b ∧ xss.length ≤ 50 ∧ Qt w wx)
            case first =>
              by_cases hb0 : b.length = 0
              · obtain rfl : at' = 0 := by omega
                have hbe : b = [] := List.length_eq_zero_iff.1 hb0
                have HBE := Lib.hid hbe
                clear hb0 hbe
                cases ha1 : a1 with
                | none =>
                  obtain rfl : c1 = 0 := HNONE.out ha1
                  subst ha1
                  go_wp2_with (at_builtin; go_must (refine wp_appQ rfl (.tmp 68) (.tmp 72) 22 22 rfl w.heap.size 38 i0 (.slice none 0 0) 1 24 (by kernel_rfl) HJ0.out HY0.out HY1.out HY2.out rfl _ _ vs rfl (HP.out.oq.alloc _) _ 2 [.slice none 0 0, .slice none 0 0] rfl (Src.ofRd (e' := 38) (by kernel_rfl) (rdn_new (xs := [.slice none 0 0, .slice none 0 0])) rfl (by decide) (fun y hy => by simp at hy; rcases hy with rfl | rfl <;> rfl)) (by unfold maxLen; omega) (by omega) (Nat.le_trans HQ.out.size (by simp)) ?_); intro v4 w4 h1 h2 h3; (have hb4 := below_app (hb := Below.alloc HQ.out HQ.out.size _) (HP.out.oq.alloc _) h2); (have H1 := Lib.hid h1); (have HB4 := Lib.hid hb4); clear h1 h2 h3 hb4)
                  go_meet
                  case rel =>
                    obtain ⟨xss, p1, p2, p3⟩ := Pcs.final HP.out H1.out (Rd.none _ _) (by rw [HBE.out]; rfl) (fun y hy => by cases hy) HB4.out HB256.out
                    exact ⟨xss, p1, p2, by omega, HB4.out⟩
                | some ad =>
                  subst ha1
                  go_wp2_with (at_builtin; go_must (refine wp_appQ rfl (.tmp 68) (.tmp 72) 22 22 rfl w.heap.size 38 i0 (.slice none 0 0) 1 24 (by kernel_rfl) HJ0.out HY0.out HY1.out HY2.out rfl _ _ vs rfl (HP.out.oq.alloc _) _ 2 [.slice none 0 0, .slice (some ad) b.length c1] rfl (Src.ofRd (e' := 38) (by kernel_rfl) (rdn_new (xs := [.slice none 0 0, .slice (some ad) b.length c1])) rfl (by decide) (fun y hy => by simp at hy; rcases hy with rfl | rfl <;> rfl)) (by unfold maxLen; omega) (by omega) (Nat.le_trans HQ.out.size (by simp)) ?_); intro v4 w4 h1 h2 h3; (have hb4 := below_app (hb := Below.alloc HQ.out HQ.out.size _) (HP.out.oq.alloc _) h2); (have H1 := Lib.hid h1); (have HB4 := Lib.hid hb4); clear h1 h2 h3 hb4)
                  go_meet
                  case rel =>
                    obtain ⟨xss, p1, p2, p3⟩ := Pcs.final HP.out H1.out (Rd.len0 HBE.out _ _) (by rw [HBE.out]; rfl) (fun y hy => by cases hy) HB4.out HB256.out
                    exact ⟨xss, p1, p2, by omega, HB4.out⟩
              · obtain ⟨B, off, rfl⟩ : ∃ B off, a1 = some ⟨B, off, none⟩ := by
                  obtain ⟨a, c, h, _, h0 | ⟨B, off, h1, _⟩⟩ := HB.out
                  · exact absurd (by have := congrArg List.length h0; simpa [u8s] using this) hb0
                  · cases h; exact ⟨B, off, h1⟩
                have i1 : (0 : Int) ≤ (at' : Int) := by omega
                have i2 : (at' : Int) ≤ (b.length : Int) := by omega
                have hrd := HB.out.cut (at' := at') (m := b.length - at') (by omega) rfl
                have hfl : b.take at' ++ (b.drop at').take (b.length - at') = b := by rw [← List.take_add, show at' + (b.length - at') = b.length from by omega, List.take_length]
                have HRD := Lib.hid hrd
                have HFL := Lib.hid hfl
                clear hrd hfl
                by_cases hcc : c1 = at'
                · have hbl2 : b.length = c1 := by omega
                  have hbe : b.take at' ++ [] = b := by rw [List.append_nil, ← hcc, ← hbl2, List.take_length]
                  have HBE := Lib.hid hbe
                  have HBL2 := Lib.hid hbl2
                  clear hbe hbl2
                  subst hcc
                  go_wp2_with (at_builtin; go_must (refine wp_appQ rfl (.tmp 68) (.tmp 72) 22 22 rfl w.heap.size 38 i0 (.slice none 0 0) 1 24 (by kernel_rfl) HJ0.out HY0.out HY1.out HY2.out rfl _ _ vs rfl (HP.out.oq.alloc _) _ 2 [.slice none 0 0, .slice (some ⟨B, off, none⟩) 0 0] rfl (Src.ofRd (e' := 38) (by kernel_rfl) (rdn_new (xs := [.slice none 0 0, .slice (some ⟨B, off, none⟩) 0 0])) rfl (by decide) (fun y hy => by simp at hy; rcases hy with rfl | rfl <;> rfl)) (by unfold maxLen; omega) (by omega) (Nat.le_trans HQ.out.size (by simp)) ?_); intro v4 w4 h1 h2 h3; (have hb4 := below_app (hb := Below.alloc HQ.out HQ.out.size _) (HP.out.oq.alloc _) h2); (have H1 := Lib.hid h1); (have HB4 := Lib.hid hb4); clear h1 h2 h3 hb4)
                  go_meet
                  case rel =>
                    obtain ⟨xss, p1, p2, p3⟩ := Pcs.final HP.out H1.out (Rd.none _ _) HBE.out (fun y hy => by cases hy) HB4.out HB256.out
                    exact ⟨xss, p1, p2, by omega, HB4.out⟩
                · have hcc2 : ¬ at' = c1 := fun h => hcc h.symm
                  go_wp2_with (at_builtin; go_must (refine wp_appQ rfl (.tmp 68) (.tmp 72) 22 22 rfl w.heap.size 38 i0 (.slice none 0 0) 1 24 (by kernel_rfl) HJ0.out HY0.out HY1.out HY2.out rfl _ _ vs rfl (HP.out.oq.alloc _) _ 2 [.slice none 0 0, .slice (some ⟨B, off + at', none⟩) (b.length - at') (c1 - at')] rfl (Src.ofRd (e' := 38) (by kernel_rfl) (rdn_new (xs := [.slice none 0 0, .slice (some ⟨B, off + at', none⟩) (b.length - at') (c1 - at')])) rfl (by decide) (fun y hy => by simp at hy; rcases hy with rfl | rfl <;> rfl)) (by unfold maxLen; omega) (by omega) (Nat.le_trans HQ.out.size (by simp)) ?_); intro v4 w4 h1 h2 h3; (have hb4 := below_app (hb := Below.alloc HQ.out HQ.out.size _) (HP.out.oq.alloc _) h2); (have H1 := Lib.hid h1); (have HB4 := Lib.hid hb4); clear h1 h2 h3 hb4)
                  go_meet
                  case rel =>
                    obtain ⟨xss, p1, p2, p3⟩ := Pcs.final HP.out H1.out HRD.out HFL.out (fun y hy => List.mem_of_mem_drop (List.mem_of_mem_take hy)) HB4.out HB256.out
                    exact ⟨xss, p1, p2, by omega, HB4.out⟩
            case rest =>
              obtain ⟨xss, hp, hfl, hx50, hq⟩ := hcut
              have ho1 := of_any xss _ _ hp (by omega) (by rw [hfl]; omega)
              have hpb : ∀ w', Qt wc w' → Parts (w'.alloc (.cells #[.slice a1 b.length c1] 38)) (.slice (some ⟨w'.heap.size, 0, none⟩) 1 1) [b] := fun w' q => parts_one rfl ((HB.out.below hq).below q) HB256.out
              have ho2 : ∀ w', Qt wc w' → Calls Try.prog 10 #[.slice (some ⟨w'.heap.size, 0, none⟩) 1 1] (w'.alloc (.cells #[.slice a1 b.length c1] 38)) fun e w'' => e = .returned (.agg (u8s (sha b)).toArray) ∧ Qt w' w'' := fun w' q => by
                refine (of_any [b] _ _ (hpb w' q) (by simp) (by simp; omega)).mono ?_
                rintro e w'' ⟨rfl, q2⟩
                exact ⟨by simp, ((Qt.refl w').alloc _).trans q2⟩
              rw [hfl] at ho1
              have hne := neqHash_same (sha b) (sha_len _)
              generalize sha b = S0 at *
              have HO1 := Lib.hid ho1
              have HO2 := Lib.hid ho2
              have HQc := Lib.hid hq
              clear ho1 ho2 hpb hp hfl hx50 hq HZ HNONE HB
              go_wp2_with fail
              refine HO1.out.mono ?_
              rintro e w5 ⟨rfl, q5⟩
              have HQ5 := Lib.hid q5
              clear q5
              go_wp2_with fail
              refine (HO2.out _ HQ5.out).mono ?_
              rintro e w6 ⟨rfl, q6⟩
              have HQ6 := Lib.hid ((HQc.out.trans HQ5.out).trans q6)
              clear q6
              obtain ⟨nl, hnl⟩ : ∃ nl, nl = l.length := ⟨_, rfl⟩
              obtain ⟨fb, hfb, hfb1, hfb2⟩ : ∃ fb, decide ((nl : Int) < 2) = fb ∧ (1 < nl → fb = false) ∧ (¬ 1 < nl → fb = true) := ⟨_, rfl, fun h => by simp; omega, fun h => by simp; omega⟩
              have HNL := Lib.hid hnl
              have HF1 := Lib.hid hfb1
              have HF2 := Lib.hid hfb2
              have hnl40 : nl ≤ 40 := by omega
              rw [← hnl]
              clear hnl hfb1 hfb2 d2 hl40 hll
              go_wp2_with fail
              clear hne hfb
              go_loopg [12, 13] 99 (fun n f x wr => ∃ p j fb, n + p = 100 ∧ p = 2 ^ j ∧ p ≤ 80 ∧ x = .int .i64 (p : Nat) ∧ f = .bool fb ∧ (p < nl → fb = false) ∧ (¬ p < nl → fb = true) ∧ Qt w wr)
              case atStart => exact ⟨1, 0, fb, by omega, rfl, by omega, rfl, rfl, HF1.out, HF2.out, HQ6.out⟩
              case round =>
                obtain ⟨p, j, fb, hgp, hpj, hp80, rfl, rfl, hf1, hf2, hq⟩ := hrel
                have HGP := Lib.hid hgp
                have HPJ := Lib.hid hpj
                have HQ := Lib.hid hq
                have hp0 : 0 < p := by rw [hpj]; exact Nat.two_pow_pos _
                clear hgp hpj hq HQ6 HQ5 HQc HO1 HO2
                by_cases hp : p < nl
                · obtain rfl : fb = false := hf1 hp
                  clear hf1 hf2
                  by_cases h2 : p * 2 < nl
                  · have d4 : (p : Int) * 2 < (nl : Int) := by omega
                    go_wp2
                    go_roundg (gk - p)
                    case measure => have := HGP.out; omega
                    case rel => exact ⟨p * 2, j + 1, false, by have := HGP.out; omega, by rw [Nat.pow_succ, HPJ.out], by omega, by go_num, rfl, fun _ => rfl, fun h => absurd h2 h, HQ.out⟩
                  · have d4 : ¬ (p : Int) * 2 < (nl : Int) := by omega
                    have hm : p = half l.length := by rw [← HNL.out, half_of (j := j) (by rw [← HPJ.out]; exact hp) (by rw [← HPJ.out]; omega), HPJ.out]
                    have hv := HL.out
                    rw [← HNL.out] at hv
                    have hn := HNL.out
                    obtain ⟨LB, lo, rfl, hcl⟩ : ∃ b off, a3 = some ⟨b, off, none⟩ ∧ nl ≤ c3 := by
                      obtain ⟨a, c, hv', hc, h0 | ⟨b, off, rfl, hx⟩⟩ := hv.rd
                      · have h1 := hv.len
                        cases l with
                        | nil => simp at hn; omega
                        | cons a l =>
                          have := h1 a (by simp)
                          exact absurd (congrArg List.length h0) (by simp [u8s, this])
                      · cases hv'; exact ⟨b, off, rfl, by rw [hn]; exact hc⟩
                    have hcell : ∀ j u, (u8s l.flatten)[j]? = some u → w.cell? ⟨LB, lo + j, none⟩ = some u := by
                      obtain ⟨a', c', hv', _, h0 | ⟨b', off', hb', hx⟩⟩ := hv.rd
                      · rw [h0]; intro j u hu; simp at hu
                      · cases hv'; cases hb'; exact hx
                    have hflat := flat_cut l hv.len p (by omega)
                    have hs1 : Hs w (.slice (some ⟨LB, lo, none⟩) p c3) (l.take p) := by
                      refine ⟨⟨_, _, by rw [List.length_take, Nat.min_eq_left (by omega)], by rw [List.length_take]; omega, .inr ⟨LB, lo, rfl, fun j u hu => hcell j u ?_⟩⟩, fun h hh => hv.len h (List.mem_of_mem_take hh), fun h hh => hv.lt h (List.mem_of_mem_take hh)⟩
                      rw [hflat.1, u8s, List.map_take, List.getElem?_take] at hu
                      split at hu
                      · exact hu
                      · cases hu
                    have hs2 : Hs w (.slice (some ⟨LB, lo + p * 32, none⟩) (nl - p) (c3 - p)) (l.drop p) := by
                      refine ⟨⟨_, _, by rw [List.length_drop, hn], by rw [List.length_drop]; omega, .inr ⟨LB, lo + p * 32, rfl, fun j u hu => ?_⟩⟩, fun h hh => hv.len h (List.mem_of_mem_drop hh), fun h hh => hv.lt h (List.mem_of_mem_drop hh)⟩
                      rw [hflat.2, u8s, List.map_drop, List.getElem?_drop] at hu
                      rw [Nat.add_assoc]; exact hcell _ u hu
                    have hc1' : ∀ w1, Qt w w1 → Calls Try.prog 14 #[.slice (some ⟨LB, lo, none⟩) p c3] w1 fun e w'' => e = .returned (.agg (u8s (root (l.take p))).toArray) ∧ Qt w1 w'' := fun w1 q => root_any (l.take p) _ w1 (by rw [List.length_take]; omega) (hs1.below q)
                    have hc2' : ∀ w1, Qt w w1 → Calls Try.prog 14 #[.slice (some ⟨LB, lo + p * 32, none⟩) (nl - p) (c3 - p)] w1 fun e w'' => e = .returned (.agg (u8s (root (l.drop p))).toArray) ∧ Qt w1 w'' := fun w1 q => root_any (l.drop p) _ w1 (by rw [List.length_drop]; omega) (hs2.below q)
                    have hcl' : ∀ w1, Qt w w1 → Calls Try.prog 14 #[.slice (some ⟨LB, lo, none⟩) nl c3] w1 fun e w'' => e = .returned (.agg (u8s (root l)).toArray) ∧ Qt w1 w'' := fun w1 q => root_any l _ w1 (by omega) (hv.below q)
                    have hroot : root l = sha ([2] ++ root (l.take p) ++ root (l.drop p)) := by rw [hm]; exact root_more (by omega)
                    have hl1 := root_len (l.take p)
                    have hl2' := root_len (l.drop p)
                    have hl3 := root_len l
                    have ht1 := root_lt (l.take p)
                    have ht2 := root_lt (l.drop p)
                    have heq := eqH32 (root l) hl3
                    generalize root (l.take p) = r1 at *
                    generalize root (l.drop p) = r2 at *
                    generalize root l = S at *
                    have HROOT := Lib.hid hroot
                    have HL1 := Lib.hid hl1
                    have HL2 := Lib.hid hl2'
                    have HT1 := Lib.hid ht1
                    have HT2 := Lib.hid ht2
                    have HC1 := Lib.hid hc1'
                    have HC2 := Lib.hid hc2'
                    have HCL := Lib.hid hcl'
                    clear hcell hflat hs1 hs2 hc1' hc2' hcl' hroot hl1 hl2' hl3 ht1 ht2 hm hv hn
                    have i1 : (0 : Int) ≤ (p : Int) := by omega
                    have i2 : (p : Int) ≤ (nl : Int) := by omega
                    have i3 : (p : Int) ≤ (c3 : Int) := by omega
                    have i4 : ¬ c3 = p := by omega
                    have hcf : ∀ args w, (callFunc 14 args).run Try.prog w = .ok (.enter 14 args) w := cfRoot
                    have hcf2 : ∀ args w, (callFunc 10 args).run Try.prog w = .ok (.enter 10 args) w := cfOf
                    have halloc : ∀ w, (Instr.alloc 27 true (.tuple #[])).run Try.prog w = .ok (.pointer (some ⟨w.heap.size, 0, none⟩)) (w.alloc (.cells (u8s (List.replicate 32 0)).toArray 27 (0, 0))) := allocHash
                    have HS1 := Lib.hid (sz32 r1 HL1.out)
                    have HS2 := Lib.hid (sz32 r2 HL2.out)
                    have HZ1 := Lib.hid (sz32z r1 HL1.out)
                    have HZ2 := Lib.hid (sz32z r2 HL2.out)
                    have HU1 := Lib.hid (u8s_one r1)
                    have HU2 := Lib.hid (u8s_one r2)
                    go_wp2_with fail
                    go_cut [14, 15] (fun x y wx => ∃ gA gB, x = .pointer (some ⟨gA, 0, none⟩) ∧ y = .pointer (some ⟨gB, 0, none⟩) ∧ Qt w wx ∧ wx.heap[gA]? = some (.cells (u8s r1).toArray 27 (0, 0)) ∧ wx.heap[gB]? = some (.cells (u8s r2).toArray 27 (0, 0)))
                    case first =>
                      refine wp_region_any (by kernel_rfl) ?_
                      change wpAny _ _ _ _ _ _ _ (World.drew _)
                      refine wpAny_take (i := 0) (oi := { dst := some 94, op := Go.Op.move (Go.Operand.tmp 2), type := 32, pos := "outright.go:40", after := #[], guard := none }) (v := Value.slice (some ⟨LB, lo, none⟩) nl c3) rfl (by kernel_rfl) (by kernel_rfl) (by kernel_rfl) (fun _ _ _ h => h) (Or.inl ⟨by rfl, fun w => by go_simp⟩) ?_
                      refine wpAny_take (i := 1) (oi := { dst := some 95, op := Go.Op.move (Go.Operand.tmp 13), type := 3, pos := "outright.go:40", after := #[], guard := none }) (v := Value.int .i64 (p : Int)) rfl (by kernel_rfl) (by kernel_rfl) (by kernel_rfl) (fun _ _ _ h => h) (Or.inl ⟨by rfl, fun w => by go_simp⟩) ?_
                      refine wpAny_take (i := 2) (oi := { dst := some 96, op := Go.Op.slice 32 (Go.Operand.tmp 94) none (some (Go.Operand.tmp 95)) none, type := 32, pos := "outright.go:40", after := #[{ on := 0, ground := Go.Ground.data }, { on := 1, ground := Go.Ground.data }], guard := none }) (v := Value.slice (some ⟨LB, lo, none⟩) p c3) rfl (by kernel_rfl) (by kernel_rfl) (by kernel_rfl) (fun _ _ _ h => h) (Or.inl ⟨by rfl, fun w => by go_simp⟩) ?_
                      refine wpAny_take (i := 4) (oi := { dst := some 98, op := Go.Op.move (Go.Operand.tmp 2), type := 32, pos := "outright.go:40", after := #[], guard := none }) (v := Value.slice (some ⟨LB, lo, none⟩) nl c3) rfl (by kernel_rfl) (by kernel_rfl) (by kernel_rfl) (fun _ _ _ h => h) (Or.inl ⟨by rfl, fun w => by go_simp⟩) ?_
                      refine wpAny_take (i := 5) (oi := { dst := some 99, op := Go.Op.move (Go.Operand.tmp 13), type := 3, pos := "outright.go:40", after := #[], guard := none }) (v := Value.int .i64 (p : Int)) rfl (by kernel_rfl) (by kernel_rfl) (by kernel_rfl) (fun _ _ _ h => h) (Or.inl ⟨by rfl, fun w => by go_simp⟩) ?_
                      refine wpAny_take (i := 6) (oi := { dst := some 100, op := Go.Op.slice 32 (Go.Operand.tmp 98) (some (Go.Operand.tmp 99)) none none, type := 32, pos := "outright.go:40", after := #[{ on := 4, ground := Go.Ground.data }, { on := 5, ground := Go.Ground.data }], guard := none }) (v := Value.slice (some ⟨LB, lo + p * 32, none⟩) (nl - p) (c3 - p)) rfl (by kernel_rfl) (by kernel_rfl) (by kernel_rfl) (fun _ _ _ h => h) (Or.inl ⟨by rfl, fun w => by go_simp⟩) ?_
                      refine gen_frame fun F0 hA => ?_
                      have e96_0 : F0.eval (.tmp 96) = Value.slice (some ⟨LB, lo, none⟩) p c3 := by rw [hA]; simp [Act.put, Act.eval]
                      have e100_0 : F0.eval (.tmp 100) = Value.slice (some ⟨LB, lo + p * 32, none⟩) (nl - p) (c3 - p) := by rw [hA]; simp [Act.put, Act.eval]
                      have z0 : F0.tmps.size = 111 := by rw [hA]; simp [Act.put]
                      have hF0 := Lib.hid hA
                      clear hA
                      generalize hW : World.drew _ = W0
                      have HQ1 := Lib.hid (show Qt w W0 from by rw [← hW]; exact HQ.out.drew)
                      have Q0 := Qt.refl W0
                      clear hW
                      refine wpAny_ready (rs := [3, 8, 9]) (by kernel_rfl) (by simp) ?_
                      refine AllReady.cons (o := { dst := some 97, op := Go.Op.call { callee := Go.Callee.value (Go.Operand.func 14), args := #[Go.Operand.tmp 96], argTypes := #[32] }, type := 27, pos := "outright.go:40", after := #[{ on := 2, ground := Go.Ground.data }], guard := none }) rfl (fun K hK => ?_) ?_
                      · refine st_call1 (by rfl) 14 (.tmp 96) 32 (by rfl) (Value.slice (some ⟨LB, lo, none⟩) p c3) e96_0 (hcf _) _ (Qt W0) (HC1.out _ (HQ1.out.trans Q0)) ?_
                        intro W1 q1
                        have Q1 := Q0.trans q1
                        refine hK _ _ ?_
                        clear hK K
                        refine gen_frame fun F1 hA => ?_
                        have hF : F1 = F0.put (some 97) (.agg (u8s r1).toArray) := hA
                        have hF1 := Lib.hid hF
                        have e96_1 : F1.eval (.tmp 96) = Value.slice (some ⟨LB, lo, none⟩) p c3 := by rw [hF, ev_other (by decide)]; exact e96_0
                        have e100_1 : F1.eval (.tmp 100) = Value.slice (some ⟨LB, lo + p * 32, none⟩) (nl - p) (c3 - p) := by rw [hF, ev_other (by decide)]; exact e100_0
                        have e97_1 : F1.eval (.tmp 97) = (.agg (u8s r1).toArray) := by rw [hF]; exact ev_same (by rw [z0]; decide)
                        have z1 : F1.tmps.size = 111 := by rw [hF, put_size]; exact z0
                        clear hF hA
                        refine wpAny_ready (rs := [7, 8, 9]) (by kernel_rfl) (by simp) ?_
                        refine AllReady.cons (o := { dst := some 101, op := Go.Op.call { callee := Go.Callee.value (Go.Operand.func 14), args := #[Go.Operand.tmp 100], argTypes := #[32] }, type := 27, pos := "outright.go:40", after := #[{ on := 6, ground := Go.Ground.data }, { on := 3, ground := Go.Ground.chain }], guard := none }) rfl (fun K hK => ?_) ?_
                        · refine st_call1 (by rfl) 14 (.tmp 100) 32 (by rfl) (Value.slice (some ⟨LB, lo + p * 32, none⟩) (nl - p) (c3 - p)) e100_1 (hcf _) _ (Qt W1) (HC2.out _ (HQ1.out.trans Q1)) ?_
                          intro W2 q2
                          have Q2 := Q1.trans q2
                          refine hK _ _ ?_
                          clear hK K
                          refine gen_frame fun F2 hA => ?_
                          have hF : F2 = F1.put (some 101) (.agg (u8s r2).toArray) := hA
                          have hF2 := Lib.hid hF
                          have e96_2 : F2.eval (.tmp 96) = Value.slice (some ⟨LB, lo, none⟩) p c3 := by rw [hF, ev_other (by decide)]; exact e96_1
                          have e100_2 : F2.eval (.tmp 100) = Value.slice (some ⟨LB, lo + p * 32, none⟩) (nl - p) (c3 - p) := by rw [hF, ev_other (by decide)]; exact e100_1
                          have e97_2 : F2.eval (.tmp 97) = (.agg (u8s r1).toArray) := by rw [hF, ev_other (by decide)]; exact e97_1
                          have e101_2 : F2.eval (.tmp 101) = (.agg (u8s r2).toArray) := by rw [hF]; exact ev_same (by rw [z1]; decide)
                          have z2 : F2.tmps.size = 111 := by rw [hF, put_size]; exact z1
                          clear hF hA
                          refine wpAny_ready (rs := [8, 9]) (by kernel_rfl) (by simp) ?_
                          refine AllReady.cons (o := { dst := some 14, op := Go.Op.alloc 27, type := 0, pos := "outright.go:40", after := #[], guard := none }) rfl (fun K hK => ?_) ?_
                          · refine st_alloc (by rfl) 27 (by rfl) _ halloc ?_
                            intro gA W3 q3 lA HA3
                            have Q3 := Q2.trans q3
                            have bA : W0.heap.size ≤ gA := Nat.le_trans Q2.size lA
                            refine hK _ _ ?_
                            clear hK K
                            refine gen_frame fun F3 hA => ?_
                            have hF : F3 = F2.put (some 14) (.pointer (some ⟨gA, 0, none⟩)) := hA
                            have hF3 := Lib.hid hF
                            have e96_3 : F3.eval (.tmp 96) = Value.slice (some ⟨LB, lo, none⟩) p c3 := by rw [hF, ev_other (by decide)]; exact e96_2
                            have e100_3 : F3.eval (.tmp 100) = Value.slice (some ⟨LB, lo + p * 32, none⟩) (nl - p) (c3 - p) := by rw [hF, ev_other (by decide)]; exact e100_2
                            have e97_3 : F3.eval (.tmp 97) = (.agg (u8s r1).toArray) := by rw [hF, ev_other (by decide)]; exact e97_2
                            have e101_3 : F3.eval (.tmp 101) = (.agg (u8s r2).toArray) := by rw [hF, ev_other (by decide)]; exact e101_2
                            have e14_3 : F3.eval (.tmp 14) = (.pointer (some ⟨gA, 0, none⟩)) := by rw [hF]; exact ev_same (by rw [z2]; decide)
                            have z3 : F3.tmps.size = 111 := by rw [hF, put_size]; exact z2
                            clear hF hA
                            refine wpAny_ready (rs := [9]) (by kernel_rfl) (by simp) ?_
                            refine AllReady.cons (o := { dst := some 15, op := Go.Op.alloc 27, type := 0, pos := "outright.go:40", after := #[], guard := none }) rfl (fun K hK => ?_) ?_
                            · refine st_alloc (by rfl) 27 (by rfl) _ halloc ?_
                              intro gB W4 q4 lB HB4
                              have Q4 := Q3.trans q4
                              have bB : W0.heap.size ≤ gB := Nat.le_trans Q3.size lB
                              have HA4 := blk_qt HA3 q4
                              have ne : gA ≠ gB := Nat.ne_of_lt (Nat.lt_of_lt_of_le (blk_lt HA3) lB)
                              refine hK _ _ ?_
                              clear hK K
                              refine gen_frame fun F4 hA => ?_
                              have hF : F4 = F3.put (some 15) (.pointer (some ⟨gB, 0, none⟩)) := hA
                              have hF4 := Lib.hid hF
                              have e96_4 : F4.eval (.tmp 96) = Value.slice (some ⟨LB, lo, none⟩) p c3 := by rw [hF, ev_other (by decide)]; exact e96_3
                              have e100_4 : F4.eval (.tmp 100) = Value.slice (some ⟨LB, lo + p * 32, none⟩) (nl - p) (c3 - p) := by rw [hF, ev_other (by decide)]; exact e100_3
                              have e97_4 : F4.eval (.tmp 97) = (.agg (u8s r1).toArray) := by rw [hF, ev_other (by decide)]; exact e97_3
                              have e101_4 : F4.eval (.tmp 101) = (.agg (u8s r2).toArray) := by rw [hF, ev_other (by decide)]; exact e101_3
                              have e14_4 : F4.eval (.tmp 14) = (.pointer (some ⟨gA, 0, none⟩)) := by rw [hF, ev_other (by decide)]; exact e14_3
                              have e15_4 : F4.eval (.tmp 15) = (.pointer (some ⟨gB, 0, none⟩)) := by rw [hF]; exact ev_same (by rw [z3]; decide)
                              have z4 : F4.tmps.size = 111 := by rw [hF, put_size]; exact z3
                              clear hF hA
                              refine wpAny_ready (rs := [10]) (by kernel_rfl) (by simp) ?_
                              refine AllReady.cons (o := { dst := none, op := Go.Op.store 27 (Go.Operand.tmp 14) (Go.Operand.tmp 97), type := 0, pos := "outright.go:40", after := #[{ on := 8, ground := Go.Ground.data }, { on := 3, ground := Go.Ground.data }, { on := 7, ground := Go.Ground.chain }, { on := 0, ground := Go.Ground.phase }, { on := 1, ground := Go.Ground.phase }, { on := 2, ground := Go.Ground.phase }, { on := 3, ground := Go.Ground.phase }, { on := 4, ground := Go.Ground.textOnly Go.Departure.lateStores }, { on := 5, ground := Go.Ground.textOnly Go.Departure.lateStores }, { on := 6, ground := Go.Ground.textOnly Go.Departure.lateStoresUnsure }, { on := 7, ground := Go.Ground.phase }, { on := 8, ground := Go.Ground.phase }, { on := 9, ground := Go.Ground.phase }], guard := none }) rfl (fun K hK => ?_) ?_
                              · refine st_store (by rfl) 27 (.tmp 14) (.tmp 97) (by rfl) gA (u8s r1).toArray e14_4 e97_4 27 _ HA4 HS1.out HZ1.out HU1.out ?_
                                intro W5 q5 HA5
                                have Q5 := qt_grown Q4 q5 bA
                                have HB5 := blk_far HB4 q5 (fun e => ne (by rw [e]))
                                refine hK _ _ ?_
                                clear hK K
                                refine gen_frame fun F5 hA => ?_
                                have hF : F5 = F4.put none undef := hA
                                have hF5 := Lib.hid hF
                                have e96_5 : F5.eval (.tmp 96) = Value.slice (some ⟨LB, lo, none⟩) p c3 := by rw [hF, ev_none]; exact e96_4
                                have e100_5 : F5.eval (.tmp 100) = Value.slice (some ⟨LB, lo + p * 32, none⟩) (nl - p) (c3 - p) := by rw [hF, ev_none]; exact e100_4
                                have e97_5 : F5.eval (.tmp 97) = (.agg (u8s r1).toArray) := by rw [hF, ev_none]; exact e97_4
                                have e101_5 : F5.eval (.tmp 101) = (.agg (u8s r2).toArray) := by rw [hF, ev_none]; exact e101_4
                                have e14_5 : F5.eval (.tmp 14) = (.pointer (some ⟨gA, 0, none⟩)) := by rw [hF, ev_none]; exact e14_4
                                have e15_5 : F5.eval (.tmp 15) = (.pointer (some ⟨gB, 0, none⟩)) := by rw [hF, ev_none]; exact e15_4
                                have z5 : F5.tmps.size = 111 := by rw [hF, put_size]; exact z4
                                clear hF hA
                                refine wpAny_ready (rs := [11]) (by kernel_rfl) (by simp) ?_
                                refine AllReady.cons (o := { dst := none, op := Go.Op.store 27 (Go.Operand.tmp 15) (Go.Operand.tmp 101), type := 0, pos := "outright.go:40", after := #[{ on := 9, ground := Go.Ground.data }, { on := 7, ground := Go.Ground.data }, { on := 10, ground := Go.Ground.chain }, { on := 0, ground := Go.Ground.phase }, { on := 1, ground := Go.Ground.phase }, { on := 2, ground := Go.Ground.phase }, { on := 3, ground := Go.Ground.phase }, { on := 4, ground := Go.Ground.phase }, { on := 5, ground := Go.Ground.phase }, { on := 6, ground := Go.Ground.phase }, { on := 7, ground := Go.Ground.phase }, { on := 8, ground := Go.Ground.phase }, { on := 9, ground := Go.Ground.phase }, { on := 10, ground := Go.Ground.phase }], guard := none }) rfl (fun K hK => ?_) ?_
                                · refine st_store (by rfl) 27 (.tmp 15) (.tmp 101) (by rfl) gB (u8s r2).toArray e15_5 e101_5 27 _ HB5 HS2.out HZ2.out HU2.out ?_
                                  intro W6 q6 HB6
                                  have Q6 := qt_grown Q5 q6 bB
                                  have HA6 := blk_far HA5 q6 (fun e => ne (by rw [e]))
                                  refine hK _ _ ?_
                                  clear hK K
                                  refine gen_frame fun F6 hA => ?_
                                  have hF : F6 = F5.put none undef := hA
                                  have hF6 := Lib.hid hF
                                  have e96_6 : F6.eval (.tmp 96) = Value.slice (some ⟨LB, lo, none⟩) p c3 := by rw [hF, ev_none]; exact e96_5
                                  have e100_6 : F6.eval (.tmp 100) = Value.slice (some ⟨LB, lo + p * 32, none⟩) (nl - p) (c3 - p) := by rw [hF, ev_none]; exact e100_5
                                  have e97_6 : F6.eval (.tmp 97) = (.agg (u8s r1).toArray) := by rw [hF, ev_none]; exact e97_5
                                  have e101_6 : F6.eval (.tmp 101) = (.agg (u8s r2).toArray) := by rw [hF, ev_none]; exact e101_5
                                  have e14_6 : F6.eval (.tmp 14) = (.pointer (some ⟨gA, 0, none⟩)) := by rw [hF, ev_none]; exact e14_5
                                  have e15_6 : F6.eval (.tmp 15) = (.pointer (some ⟨gB, 0, none⟩)) := by rw [hF, ev_none]; exact e15_5
                                  have z6 : F6.tmps.size = 111 := by rw [hF, put_size]; exact z5
                                  clear hF hA
                                  refine wpAny_done (by kernel_rfl) ?_ _
                                  rw [hF6.out, hF5.out, hF4.out, hF3.out, hF2.out, hF1.out, hF0.out]
                                  go_wp2_with fail
                                  go_meet
                                  exact ⟨gA, gB, rfl, rfl, HQ1.out.trans Q6, HA6, HB6⟩
                                exact AllReady.nil
                              exact AllReady.nil
                            exact AllReady.nil
                          refine AllReady.cons (o := { dst := some 15, op := Go.Op.alloc 27, type := 0, pos := "outright.go:40", after := #[], guard := none }) rfl (fun K hK => ?_) ?_
                          · refine st_alloc (by rfl) 27 (by rfl) _ halloc ?_
                            intro gB W3 q3 lB HB3
                            have Q3 := Q2.trans q3
                            have bB : W0.heap.size ≤ gB := Nat.le_trans Q2.size lB
                            refine hK _ _ ?_
                            clear hK K
                            refine gen_frame fun F3 hA => ?_
                            have hF : F3 = F2.put (some 15) (.pointer (some ⟨gB, 0, none⟩)) := hA
                            have hF3 := Lib.hid hF
                            have e96_3 : F3.eval (.tmp 96) = Value.slice (some ⟨LB, lo, none⟩) p c3 := by rw [hF, ev_other (by decide)]; exact e96_2
                            have e100_3 : F3.eval (.tmp 100) = Value.slice (some ⟨LB, lo + p * 32, none⟩) (nl - p) (c3 - p) := by rw [hF, ev_other (by decide)]; exact e100_2
                            have e97_3 : F3.eval (.tmp 97) = (.agg (u8s r1).toArray) := by rw [hF, ev_other (by decide)]; exact e97_2
                            have e101_3 : F3.eval (.tmp 101) = (.agg (u8s r2).toArray) := by rw [hF, ev_other (by decide)]; exact e101_2
                            have e15_3 : F3.eval (.tmp 15) = (.pointer (some ⟨gB, 0, none⟩)) := by rw [hF]; exact ev_same (by rw [z2]; decide)
                            have z3 : F3.tmps.size = 111 := by rw [hF, put_size]; exact z2
                            clear hF hA
                            refine wpAny_ready (rs := [8]) (by kernel_rfl) (by simp) ?_
                            refine AllReady.cons (o := { dst := some 14, op := Go.Op.alloc 27, type := 0, pos := "outright.go:40", after := #[], guard := none }) rfl (fun K hK => ?_) ?_
                            · refine st_alloc (by rfl) 27 (by rfl) _ halloc ?_
                              intro gA W4 q4 lA HA4
                              have Q4 := Q3.trans q4
                              have bA : W0.heap.size ≤ gA := Nat.le_trans Q3.size lA
                              have HB4 := blk_qt HB3 q4
                              have ne : gB ≠ gA := Nat.ne_of_lt (Nat.lt_of_lt_of_le (blk_lt HB3) lA)
                              refine hK _ _ ?_
                              clear hK K
                              refine gen_frame fun F4 hA => ?_
                              have hF : F4 = F3.put (some 14) (.pointer (some ⟨gA, 0, none⟩)) := hA
                              have hF4 := Lib.hid hF
                              have e96_4 : F4.eval (.tmp 96) = Value.slice (some ⟨LB, lo, none⟩) p c3 := by rw [hF, ev_other (by decide)]; exact e96_3
                              have e100_4 : F4.eval (.tmp 100) = Value.slice (some ⟨LB, lo + p * 32, none⟩) (nl - p) (c3 - p) := by rw [hF, ev_other (by decide)]; exact e100_3
                              have e97_4 : F4.eval (.tmp 97) = (.agg (u8s r1).toArray) := by rw [hF, ev_other (by decide)]; exact e97_3
                              have e101_4 : F4.eval (.tmp 101) = (.agg (u8s r2).toArray) := by rw [hF, ev_other (by decide)]; exact e101_3
                              have e15_4 : F4.eval (.tmp 15) = (.pointer (some ⟨gB, 0, none⟩)) := by rw [hF, ev_other (by decide)]; exact e15_3
                              have e14_4 : F4.eval (.tmp 14) = (.pointer (some ⟨gA, 0, none⟩)) := by rw [hF]; exact ev_same (by rw [z3]; decide)
                              have z4 : F4.tmps.size = 111 := by rw [hF, put_size]; exact z3
                              clear hF hA
                              refine wpAny_ready (rs := [10]) (by kernel_rfl) (by simp) ?_
                              refine AllReady.cons (o := { dst := none, op := Go.Op.store 27 (Go.Operand.tmp 14) (Go.Operand.tmp 97), type := 0, pos := "outright.go:40", after := #[{ on := 8, ground := Go.Ground.data }, { on := 3, ground := Go.Ground.data }, { on := 7, ground := Go.Ground.chain }, { on := 0, ground := Go.Ground.phase }, { on := 1, ground := Go.Ground.phase }, { on := 2, ground := Go.Ground.phase }, { on := 3, ground := Go.Ground.phase }, { on := 4, ground := Go.Ground.textOnly Go.Departure.lateStores }, { on := 5, ground := Go.Ground.textOnly Go.Departure.lateStores }, { on := 6, ground := Go.Ground.textOnly Go.Departure.lateStoresUnsure }, { on := 7, ground := Go.Ground.phase }, { on := 8, ground := Go.Ground.phase }, { on := 9, ground := Go.Ground.phase }], guard := none }) rfl (fun K hK => ?_) ?_
                              · refine st_store (by rfl) 27 (.tmp 14) (.tmp 97) (by rfl) gA (u8s r1).toArray e14_4 e97_4 27 _ HA4 HS1.out HZ1.out HU1.out ?_
                                intro W5 q5 HA5
                                have Q5 := qt_grown Q4 q5 bA
                                have HB5 := blk_far HB4 q5 (fun e => ne (by rw [e]))
                                refine hK _ _ ?_
                                clear hK K
                                refine gen_frame fun F5 hA => ?_
                                have hF : F5 = F4.put none undef := hA
                                have hF5 := Lib.hid hF
                                have e96_5 : F5.eval (.tmp 96) = Value.slice (some ⟨LB, lo, none⟩) p c3 := by rw [hF, ev_none]; exact e96_4
                                have e100_5 : F5.eval (.tmp 100) = Value.slice (some ⟨LB, lo + p * 32, none⟩) (nl - p) (c3 - p) := by rw [hF, ev_none]; exact e100_4
                                have e97_5 : F5.eval (.tmp 97) = (.agg (u8s r1).toArray) := by rw [hF, ev_none]; exact e97_4
                                have e101_5 : F5.eval (.tmp 101) = (.agg (u8s r2).toArray) := by rw [hF, ev_none]; exact e101_4
                                have e15_5 : F5.eval (.tmp 15) = (.pointer (some ⟨gB, 0, none⟩)) := by rw [hF, ev_none]; exact e15_4
                                have e14_5 : F5.eval (.tmp 14) = (.pointer (some ⟨gA, 0, none⟩)) := by rw [hF, ev_none]; exact e14_4
                                have z5 : F5.tmps.size = 111 := by rw [hF, put_size]; exact z4
                                clear hF hA
                                refine wpAny_ready (rs := [11]) (by kernel_rfl) (by simp) ?_
                                refine AllReady.cons (o := { dst := none, op := Go.Op.store 27 (Go.Operand.tmp 15) (Go.Operand.tmp 101), type := 0, pos := "outright.go:40", after := #[{ on := 9, ground := Go.Ground.data }, { on := 7, ground := Go.Ground.data }, { on := 10, ground := Go.Ground.chain }, { on := 0, ground := Go.Ground.phase }, { on := 1, ground := Go.Ground.phase }, { on := 2, ground := Go.Ground.phase }, { on := 3, ground := Go.Ground.phase }, { on := 4, ground := Go.Ground.phase }, { on := 5, ground := Go.Ground.phase }, { on := 6, ground := Go.Ground.phase }, { on := 7, ground := Go.Ground.phase }, { on := 8, ground := Go.Ground.phase }, { on := 9, ground := Go.Ground.phase }, { on := 10, ground := Go.Ground.phase }], guard := none }) rfl (fun K hK => ?_) ?_
                                · refine st_store (by rfl) 27 (.tmp 15) (.tmp 101) (by rfl) gB (u8s r2).toArray e15_5 e101_5 27 _ HB5 HS2.out HZ2.out HU2.out ?_
                                  intro W6 q6 HB6
                                  have Q6 := qt_grown Q5 q6 bB
                                  have HA6 := blk_far HA5 q6 (fun e => ne (by rw [e]))
                                  refine hK _ _ ?_
                                  clear hK K
                                  refine gen_frame fun F6 hA => ?_
                                  have hF : F6 = F5.put none undef := hA
                                  have hF6 := Lib.hid hF
                                  have e96_6 : F6.eval (.tmp 96) = Value.slice (some ⟨LB, lo, none⟩) p c3 := by rw [hF, ev_none]; exact e96_5
                                  have e100_6 : F6.eval (.tmp 100) = Value.slice (some ⟨LB, lo + p * 32, none⟩) (nl - p) (c3 - p) := by rw [hF, ev_none]; exact e100_5
                                  have e97_6 : F6.eval (.tmp 97) = (.agg (u8s r1).toArray) := by rw [hF, ev_none]; exact e97_5
                                  have e101_6 : F6.eval (.tmp 101) = (.agg (u8s r2).toArray) := by rw [hF, ev_none]; exact e101_5
                                  have e15_6 : F6.eval (.tmp 15) = (.pointer (some ⟨gB, 0, none⟩)) := by rw [hF, ev_none]; exact e15_5
                                  have e14_6 : F6.eval (.tmp 14) = (.pointer (some ⟨gA, 0, none⟩)) := by rw [hF, ev_none]; exact e14_5
                                  have z6 : F6.tmps.size = 111 := by rw [hF, put_size]; exact z5
                                  clear hF hA
                                  refine wpAny_done (by kernel_rfl) ?_ _
                                  rw [hF6.out, hF5.out, hF4.out, hF3.out, hF2.out, hF1.out, hF0.out]
                                  go_wp2_with fail
                                  go_meet
                                  exact ⟨gA, gB, rfl, rfl, HQ1.out.trans Q6, HA6, HB6⟩
                                exact AllReady.nil
                              exact AllReady.nil
                            exact AllReady.nil
                          exact AllReady.nil
                        refine AllReady.cons (o := { dst := some 14, op := Go.Op.alloc 27, type := 0, pos := "outright.go:40", after := #[], guard := none }) rfl (fun K hK => ?_) ?_
                        · refine st_alloc (by rfl) 27 (by rfl) _ halloc ?_
                          intro gA W2 q2 lA HA2
                          have Q2 := Q1.trans q2
                          have bA : W0.heap.size ≤ gA := Nat.le_trans Q1.size lA
                          refine hK _ _ ?_
                          clear hK K
                          refine gen_frame fun F2 hA => ?_
                          have hF : F2 = F1.put (some 14) (.pointer (some ⟨gA, 0, none⟩)) := hA
                          have hF2 := Lib.hid hF
                          have e96_2 : F2.eval (.tmp 96) = Value.slice (some ⟨LB, lo, none⟩) p c3 := by rw [hF, ev_other (by decide)]; exact e96_1
                          have e100_2 : F2.eval (.tmp 100) = Value.slice (some ⟨LB, lo + p * 32, none⟩) (nl - p) (c3 - p) := by rw [hF, ev_other (by decide)]; exact e100_1
                          have e97_2 : F2.eval (.tmp 97) = (.agg (u8s r1).toArray) := by rw [hF, ev_other (by decide)]; exact e97_1
                          have e14_2 : F2.eval (.tmp 14) = (.pointer (some ⟨gA, 0, none⟩)) := by rw [hF]; exact ev_same (by rw [z1]; decide)
                          have z2 : F2.tmps.size = 111 := by rw [hF, put_size]; exact z1
                          clear hF hA
                          refine wpAny_ready (rs := [7, 9]) (by kernel_rfl) (by simp) ?_
                          refine AllReady.cons (o := { dst := some 101, op := Go.Op.call { callee := Go.Callee.value (Go.Operand.func 14), args := #[Go.Operand.tmp 100], argTypes := #[32] }, type := 27, pos := "outright.go:40", after := #[{ on := 6, ground := Go.Ground.data }, { on := 3, ground := Go.Ground.chain }], guard := none }) rfl (fun K hK => ?_) ?_
                          · refine st_call1 (by rfl) 14 (.tmp 100) 32 (by rfl) (Value.slice (some ⟨LB, lo + p * 32, none⟩) (nl - p) (c3 - p)) e100_2 (hcf _) _ (Qt W2) (HC2.out _ (HQ1.out.trans Q2)) ?_
                            intro W3 q3
                            have Q3 := Q2.trans q3
                            have HA3 := blk_qt HA2 q3
                            refine hK _ _ ?_
                            clear hK K
                            refine gen_frame fun F3 hA => ?_
                            have hF : F3 = F2.put (some 101) (.agg (u8s r2).toArray) := hA
                            have hF3 := Lib.hid hF
                            have e96_3 : F3.eval (.tmp 96) = Value.slice (some ⟨LB, lo, none⟩) p c3 := by rw [hF, ev_other (by decide)]; exact e96_2
                            have e100_3 : F3.eval (.tmp 100) = Value.slice (some ⟨LB, lo + p * 32, none⟩) (nl - p) (c3 - p) := by rw [hF, ev_other (by decide)]; exact e100_2
                            have e97_3 : F3.eval (.tmp 97) = (.agg (u8s r1).toArray) := by rw [hF, ev_other (by decide)]; exact e97_2
                            have e14_3 : F3.eval (.tmp 14) = (.pointer (some ⟨gA, 0, none⟩)) := by rw [hF, ev_other (by decide)]; exact e14_2
                            have e101_3 : F3.eval (.tmp 101) = (.agg (u8s r2).toArray) := by rw [hF]; exact ev_same (by rw [z2]; decide)
                            have z3 : F3.tmps.size = 111 := by rw [hF, put_size]; exact z2
                            clear hF hA
                            refine wpAny_ready (rs := [9]) (by kernel_rfl) (by simp) ?_
                            refine AllReady.cons (o := { dst := some 15, op := Go.Op.alloc 27, type := 0, pos := "outright.go:40", after := #[], guard := none }) rfl (fun K hK => ?_) ?_
                            · refine st_alloc (by rfl) 27 (by rfl) _ halloc ?_
                              intro gB W4 q4 lB HB4
                              have Q4 := Q3.trans q4
                              have bB : W0.heap.size ≤ gB := Nat.le_trans Q3.size lB
                              have HA4 := blk_qt HA3 q4
                              have ne : gA ≠ gB := Nat.ne_of_lt (Nat.lt_of_lt_of_le (blk_lt HA3) lB)
                              refine hK _ _ ?_
                              clear hK K
                              refine gen_frame fun F4 hA => ?_
                              have hF : F4 = F3.put (some 15) (.pointer (some ⟨gB, 0, none⟩)) := hA
                              have hF4 := Lib.hid hF
                              have e96_4 : F4.eval (.tmp 96) = Value.slice (some ⟨LB, lo, none⟩) p c3 := by rw [hF, ev_other (by decide)]; exact e96_3
                              have e100_4 : F4.eval (.tmp 100) = Value.slice (some ⟨LB, lo + p * 32, none⟩) (nl - p) (c3 - p) := by rw [hF, ev_other (by decide)]; exact e100_3
                              have e97_4 : F4.eval (.tmp 97) = (.agg (u8s r1).toArray) := by rw [hF, ev_other (by decide)]; exact e97_3
                              have e14_4 : F4.eval (.tmp 14) = (.pointer (some ⟨gA, 0, none⟩)) := by rw [hF, ev_other (by decide)]; exact e14_3
                              have e101_4 : F4.eval (.tmp 101) = (.agg (u8s r2).toArray) := by rw [hF, ev_other (by decide)]; exact e101_3
                              have e15_4 : F4.eval (.tmp 15) = (.pointer (some ⟨gB, 0, none⟩)) := by rw [hF]; exact ev_same (by rw [z3]; decide)
                              have z4 : F4.tmps.size = 111 := by rw [hF, put_size]; exact z3
                              clear hF hA
                              refine wpAny_ready (rs := [10]) (by kernel_rfl) (by simp) ?_
                              refine AllReady.cons (o := { dst := none, op := Go.Op.store 27 (Go.Operand.tmp 14) (Go.Operand.tmp 97), type := 0, pos := "outright.go:40", after := #[{ on := 8, ground := Go.Ground.data }, { on := 3, ground := Go.Ground.data }, { on := 7, ground := Go.Ground.chain }, { on := 0, ground := Go.Ground.phase }, { on := 1, ground := Go.Ground.phase }, { on := 2, ground := Go.Ground.phase }, { on := 3, ground := Go.Ground.phase }, { on := 4, ground := Go.Ground.textOnly Go.Departure.lateStores }, { on := 5, ground := Go.Ground.textOnly Go.Departure.lateStores }, { on := 6, ground := Go.Ground.textOnly Go.Departure.lateStoresUnsure }, { on := 7, ground := Go.Ground.phase }, { on := 8, ground := Go.Ground.phase }, { on := 9, ground := Go.Ground.phase }], guard := none }) rfl (fun K hK => ?_) ?_
                              · refine st_store (by rfl) 27 (.tmp 14) (.tmp 97) (by rfl) gA (u8s r1).toArray e14_4 e97_4 27 _ HA4 HS1.out HZ1.out HU1.out ?_
                                intro W5 q5 HA5
                                have Q5 := qt_grown Q4 q5 bA
                                have HB5 := blk_far HB4 q5 (fun e => ne (by rw [e]))
                                refine hK _ _ ?_
                                clear hK K
                                refine gen_frame fun F5 hA => ?_
                                have hF : F5 = F4.put none undef := hA
                                have hF5 := Lib.hid hF
                                have e96_5 : F5.eval (.tmp 96) = Value.slice (some ⟨LB, lo, none⟩) p c3 := by rw [hF, ev_none]; exact e96_4
                                have e100_5 : F5.eval (.tmp 100) = Value.slice (some ⟨LB, lo + p * 32, none⟩) (nl - p) (c3 - p) := by rw [hF, ev_none]; exact e100_4
                                have e97_5 : F5.eval (.tmp 97) = (.agg (u8s r1).toArray) := by rw [hF, ev_none]; exact e97_4
                                have e14_5 : F5.eval (.tmp 14) = (.pointer (some ⟨gA, 0, none⟩)) := by rw [hF, ev_none]; exact e14_4
                                have e101_5 : F5.eval (.tmp 101) = (.agg (u8s r2).toArray) := by rw [hF, ev_none]; exact e101_4
                                have e15_5 : F5.eval (.tmp 15) = (.pointer (some ⟨gB, 0, none⟩)) := by rw [hF, ev_none]; exact e15_4
                                have z5 : F5.tmps.size = 111 := by rw [hF, put_size]; exact z4
                                clear hF hA
                                refine wpAny_ready (rs := [11]) (by kernel_rfl) (by simp) ?_
                                refine AllReady.cons (o := { dst := none, op := Go.Op.store 27 (Go.Operand.tmp 15) (Go.Operand.tmp 101), type := 0, pos := "outright.go:40", after := #[{ on := 9, ground := Go.Ground.data }, { on := 7, ground := Go.Ground.data }, { on := 10, ground := Go.Ground.chain }, { on := 0, ground := Go.Ground.phase }, { on := 1, ground := Go.Ground.phase }, { on := 2, ground := Go.Ground.phase }, { on := 3, ground := Go.Ground.phase }, { on := 4, ground := Go.Ground.phase }, { on := 5, ground := Go.Ground.phase }, { on := 6, ground := Go.Ground.phase }, { on := 7, ground := Go.Ground.phase }, { on := 8, ground := Go.Ground.phase }, { on := 9, ground := Go.Ground.phase }, { on := 10, ground := Go.Ground.phase }], guard := none }) rfl (fun K hK => ?_) ?_
                                · refine st_store (by rfl) 27 (.tmp 15) (.tmp 101) (by rfl) gB (u8s r2).toArray e15_5 e101_5 27 _ HB5 HS2.out HZ2.out HU2.out ?_
                                  intro W6 q6 HB6
                                  have Q6 := qt_grown Q5 q6 bB
                                  have HA6 := blk_far HA5 q6 (fun e => ne (by rw [e]))
                                  refine hK _ _ ?_
                                  clear hK K
                                  refine gen_frame fun F6 hA => ?_
                                  have hF : F6 = F5.put none undef := hA
                                  have hF6 := Lib.hid hF
                                  have e96_6 : F6.eval (.tmp 96) = Value.slice (some ⟨LB, lo, none⟩) p c3 := by rw [hF, ev_none]; exact e96_5
                                  have e100_6 : F6.eval (.tmp 100) = Value.slice (some ⟨LB, lo + p * 32, none⟩) (nl - p) (c3 - p) := by rw [hF, ev_none]; exact e100_5
                                  have e97_6 : F6.eval (.tmp 97) = (.agg (u8s r1).toArray) := by rw [hF, ev_none]; exact e97_5
                                  have e14_6 : F6.eval (.tmp 14) = (.pointer (some ⟨gA, 0, none⟩)) := by rw [hF, ev_none]; exact e14_5
                                  have e101_6 : F6.eval (.tmp 101) = (.agg (u8s r2).toArray) := by rw [hF, ev_none]; exact e101_5
                                  have e15_6 : F6.eval (.tmp 15) = (.pointer (some ⟨gB, 0, none⟩)) := by rw [hF, ev_none]; exact e15_5
                                  have z6 : F6.tmps.size = 111 := by rw [hF, put_size]; exact z5
                                  clear hF hA
                                  refine wpAny_done (by kernel_rfl) ?_ _
                                  rw [hF6.out, hF5.out, hF4.out, hF3.out, hF2.out, hF1.out, hF0.out]
                                  go_wp2_with fail
                                  go_meet
                                  exact ⟨gA, gB, rfl, rfl, HQ1.out.trans Q6, HA6, HB6⟩
                                exact AllReady.nil
                              exact AllReady.nil
                            exact AllReady.nil
                          refine AllReady.cons (o := { dst := some 15, op := Go.Op.alloc 27, type := 0, pos := "outright.go:40", after := #[], guard := none }) rfl (fun K hK => ?_) ?_
                          · refine st_alloc (by rfl) 27 (by rfl) _ halloc ?_
                            intro gB W3 q3 lB HB3
                            have Q3 := Q2.trans q3
                            have bB : W0.heap.size ≤ gB := Nat.le_trans Q2.size lB
                            have HA3 := blk_qt HA2 q3
                            have ne : gA ≠ gB := Nat.ne_of_lt (Nat.lt_of_lt_of_le (blk_lt HA2) lB)
                            refine hK _ _ ?_
                            clear hK K
                            refine gen_frame fun F3 hA => ?_
                            have hF : F3 = F2.put (some 15) (.pointer (some ⟨gB, 0, none⟩)) := hA
                            have hF3 := Lib.hid hF
                            have e96_3 : F3.eval (.tmp 96) = Value.slice (some ⟨LB, lo, none⟩) p c3 := by rw [hF, ev_other (by decide)]; exact e96_2
                            have e100_3 : F3.eval (.tmp 100) = Value.slice (some ⟨LB, lo + p * 32, none⟩) (nl - p) (c3 - p) := by rw [hF, ev_other (by decide)]; exact e100_2
                            have e97_3 : F3.eval (.tmp 97) = (.agg (u8s r1).toArray) := by rw [hF, ev_other (by decide)]; exact e97_2
                            have e14_3 : F3.eval (.tmp 14) = (.pointer (some ⟨gA, 0, none⟩)) := by rw [hF, ev_other (by decide)]; exact e14_2
                            have e15_3 : F3.eval (.tmp 15) = (.pointer (some ⟨gB, 0, none⟩)) := by rw [hF]; exact ev_same (by rw [z2]; decide)
                            have z3 : F3.tmps.size = 111 := by rw [hF, put_size]; exact z2
                            clear hF hA
                            refine wpAny_ready (rs := [7]) (by kernel_rfl) (by simp) ?_
                            refine AllReady.cons (o := { dst := some 101, op := Go.Op.call { callee := Go.Callee.value (Go.Operand.func 14), args := #[Go.Operand.tmp 100], argTypes := #[32] }, type := 27, pos := "outright.go:40", after := #[{ on := 6, ground := Go.Ground.data }, { on := 3, ground := Go.Ground.chain }], guard := none }) rfl (fun K hK => ?_) ?_
                            · refine st_call1 (by rfl) 14 (.tmp 100) 32 (by rfl) (Value.slice (some ⟨LB, lo + p * 32, none⟩) (nl - p) (c3 - p)) e100_3 (hcf _) _ (Qt W3) (HC2.out _ (HQ1.out.trans Q3)) ?_
                              intro W4 q4
                              have Q4 := Q3.trans q4
                              have HA4 := blk_qt HA3 q4
                              have HB4 := blk_qt HB3 q4
                              refine hK _ _ ?_
                              clear hK K
                              refine gen_frame fun F4 hA => ?_
                              have hF : F4 = F3.put (some 101) (.agg (u8s r2).toArray) := hA
                              have hF4 := Lib.hid hF
                              have e96_4 : F4.eval (.tmp 96) = Value.slice (some ⟨LB, lo, none⟩) p c3 := by rw [hF, ev_other (by decide)]; exact e96_3
                              have e100_4 : F4.eval (.tmp 100) = Value.slice (some ⟨LB, lo + p * 32, none⟩) (nl - p) (c3 - p) := by rw [hF, ev_other (by decide)]; exact e100_3
                              have e97_4 : F4.eval (.tmp 97) = (.agg (u8s r1).toArray) := by rw [hF, ev_other (by decide)]; exact e97_3
                              have e14_4 : F4.eval (.tmp 14) = (.pointer (some ⟨gA, 0, none⟩)) := by rw [hF, ev_other (by decide)]; exact e14_3
                              have e15_4 : F4.eval (.tmp 15) = (.pointer (some ⟨gB, 0, none⟩)) := by rw [hF, ev_other (by decide)]; exact e15_3
                              have e101_4 : F4.eval (.tmp 101) = (.agg (u8s r2).toArray) := by rw [hF]; exact ev_same (by rw [z3]; decide)
                              have z4 : F4.tmps.size = 111 := by rw [hF, put_size]; exact z3
                              clear hF hA
                              refine wpAny_ready (rs := [10]) (by kernel_rfl) (by simp) ?_
                              refine AllReady.cons (o := { dst := none, op := Go.Op.store 27 (Go.Operand.tmp 14) (Go.Operand.tmp 97), type := 0, pos := "outright.go:40", after := #[{ on := 8, ground := Go.Ground.data }, { on := 3, ground := Go.Ground.data }, { on := 7, ground := Go.Ground.chain }, { on := 0, ground := Go.Ground.phase }, { on := 1, ground := Go.Ground.phase }, { on := 2, ground := Go.Ground.phase }, { on := 3, ground := Go.Ground.phase }, { on := 4, ground := Go.Ground.textOnly Go.Departure.lateStores }, { on := 5, ground := Go.Ground.textOnly Go.Departure.lateStores }, { on := 6, ground := Go.Ground.textOnly Go.Departure.lateStoresUnsure }, { on := 7, ground := Go.Ground.phase }, { on := 8, ground := Go.Ground.phase }, { on := 9, ground := Go.Ground.phase }], guard := none }) rfl (fun K hK => ?_) ?_
                              · refine st_store (by rfl) 27 (.tmp 14) (.tmp 97) (by rfl) gA (u8s r1).toArray e14_4 e97_4 27 _ HA4 HS1.out HZ1.out HU1.out ?_
                                intro W5 q5 HA5
                                have Q5 := qt_grown Q4 q5 bA
                                have HB5 := blk_far HB4 q5 (fun e => ne (by rw [e]))
                                refine hK _ _ ?_
                                clear hK K
                                refine gen_frame fun F5 hA => ?_
                                have hF : F5 = F4.put none undef := hA
                                have hF5 := Lib.hid hF
                                have e96_5 : F5.eval (.tmp 96) = Value.slice (some ⟨LB, lo, none⟩) p c3 := by rw [hF, ev_none]; exact e96_4
                                have e100_5 : F5.eval (.tmp 100) = Value.slice (some ⟨LB, lo + p * 32, none⟩) (nl - p) (c3 - p) := by rw [hF, ev_none]; exact e100_4
                                have e97_5 : F5.eval (.tmp 97) = (.agg (u8s r1).toArray) := by rw [hF, ev_none]; exact e97_4
                                have e14_5 : F5.eval (.tmp 14) = (.pointer (some ⟨gA, 0, none⟩)) := by rw [hF, ev_none]; exact e14_4
                                have e15_5 : F5.eval (.tmp 15) = (.pointer (some ⟨gB, 0, none⟩)) := by rw [hF, ev_none]; exact e15_4
                                have e101_5 : F5.eval (.tmp 101) = (.agg (u8s r2).toArray) := by rw [hF, ev_none]; exact e101_4
                                have z5 : F5.tmps.size = 111 := by rw [hF, put_size]; exact z4
                                clear hF hA
                                refine wpAny_ready (rs := [11]) (by kernel_rfl) (by simp) ?_
                                refine AllReady.cons (o := { dst := none, op := Go.Op.store 27 (Go.Operand.tmp 15) (Go.Operand.tmp 101), type := 0, pos := "outright.go:40", after := #[{ on := 9, ground := Go.Ground.data }, { on := 7, ground := Go.Ground.data }, { on := 10, ground := Go.Ground.chain }, { on := 0, ground := Go.Ground.phase }, { on := 1, ground := Go.Ground.phase }, { on := 2, ground := Go.Ground.phase }, { on := 3, ground := Go.Ground.phase }, { on := 4, ground := Go.Ground.phase }, { on := 5, ground := Go.Ground.phase }, { on := 6, ground := Go.Ground.phase }, { on := 7, ground := Go.Ground.phase }, { on := 8, ground := Go.Ground.phase }, { on := 9, ground := Go.Ground.phase }, { on := 10, ground := Go.Ground.phase }], guard := none }) rfl (fun K hK => ?_) ?_
                                · refine st_store (by rfl) 27 (.tmp 15) (.tmp 101) (by rfl) gB (u8s r2).toArray e15_5 e101_5 27 _ HB5 HS2.out HZ2.out HU2.out ?_
                                  intro W6 q6 HB6
                                  have Q6 := qt_grown Q5 q6 bB
                                  have HA6 := blk_far HA5 q6 (fun e => ne (by rw [e]))
                                  refine hK _ _ ?_
                                  clear hK K
                                  refine gen_frame fun F6 hA => ?_
                                  have hF : F6 = F5.put none undef := hA
                                  have hF6 := Lib.hid hF
                                  have e96_6 : F6.eval (.tmp 96) = Value.slice (some ⟨LB, lo, none⟩) p c3 := by rw [hF, ev_none]; exact e96_5
                                  have e100_6 : F6.eval (.tmp 100) = Value.slice (some ⟨LB, lo + p * 32, none⟩) (nl - p) (c3 - p) := by rw [hF, ev_none]; exact e100_5
                                  have e97_6 : F6.eval (.tmp 97) = (.agg (u8s r1).toArray) := by rw [hF, ev_none]; exact e97_5
                                  have e14_6 : F6.eval (.tmp 14) = (.pointer (some ⟨gA, 0, none⟩)) := by rw [hF, ev_none]; exact e14_5
                                  have e15_6 : F6.eval (.tmp 15) = (.pointer (some ⟨gB, 0, none⟩)) := by rw [hF, ev_none]; exact e15_5
                                  have e101_6 : F6.eval (.tmp 101) = (.agg (u8s r2).toArray) := by rw [hF, ev_none]; exact e101_5
                                  have z6 : F6.tmps.size = 111 := by rw [hF, put_size]; exact z5
                                  clear hF hA
                                  refine wpAny_done (by kernel_rfl) ?_ _
                                  rw [hF6.out, hF5.out, hF4.out, hF3.out, hF2.out, hF1.out, hF0.out]
                                  go_wp2_with fail
                                  go_meet
                                  exact ⟨gA, gB, rfl, rfl, HQ1.out.trans Q6, HA6, HB6⟩
                                exact AllReady.nil
                              exact AllReady.nil
                            exact AllReady.nil
                          exact AllReady.nil
                        refine AllReady.cons (o := { dst := some 15, op := Go.Op.alloc 27, type := 0, pos := "outright.go:40", after := #[], guard := none }) rfl (fun K hK => ?_) ?_
                        · refine st_alloc (by rfl) 27 (by rfl) _ halloc ?_
                          intro gB W2 q2 lB HB2
                          have Q2 := Q1.trans q2
                          have bB : W0.heap.size ≤ gB := Nat.le_trans Q1.size lB
                          refine hK _ _ ?_
                          clear hK K
                          refine gen_frame fun F2 hA => ?_
                          have hF : F2 = F1.put (some 15) (.pointer (some ⟨gB, 0, none⟩)) := hA
                          have hF2 := Lib.hid hF
                          have e96_2 : F2.eval (.tmp 96) = Value.slice (some ⟨LB, lo, none⟩) p c3 := by rw [hF, ev_other (by decide)]; exact e96_1
                          have e100_2 : F2.eval (.tmp 100) = Value.slice (some ⟨LB, lo + p * 32, none⟩) (nl - p) (c3 - p) := by rw [hF, ev_other (by decide)]; exact e100_1
                          have e97_2 : F2.eval (.tmp 97) = (.agg (u8s r1).toArray) := by rw [hF, ev_other (by decide)]; exact e97_1
                          have e15_2 : F2.eval (.tmp 15) = (.pointer (some ⟨gB, 0, none⟩)) := by rw [hF]; exact ev_same (by rw [z1]; decide)
                          have z2 : F2.tmps.size = 111 := by rw [hF, put_size]; exact z1
                          clear hF hA
                          refine wpAny_ready (rs := [7, 8]) (by kernel_rfl) (by simp) ?_
                          refine AllReady.cons (o := { dst := some 101, op := Go.Op.call { callee := Go.Callee.value (Go.Operand.func 14), args := #[Go.Operand.tmp 100], argTypes := #[32] }, type := 27, pos := "outright.go:40", after := #[{ on := 6, ground := Go.Ground.data }, { on := 3, ground := Go.Ground.chain }], guard := none }) rfl (fun K hK => ?_) ?_
                          · refine st_call1 (by rfl) 14 (.tmp 100) 32 (by rfl) (Value.slice (some ⟨LB, lo + p * 32, none⟩) (nl - p) (c3 - p)) e100_2 (hcf _) _ (Qt W2) (HC2.out _ (HQ1.out.trans Q2)) ?_
                            intro W3 q3
                            have Q3 := Q2.trans q3
                            have HB3 := blk_qt HB2 q3
                            refine hK _ _ ?_
                            clear hK K
                            refine gen_frame fun F3 hA => ?_
                            have hF : F3 = F2.put (some 101) (.agg (u8s r2).toArray) := hA
                            have hF3 := Lib.hid hF
                            have e96_3 : F3.eval (.tmp 96) = Value.slice (some ⟨LB, lo, none⟩) p c3 := by rw [hF, ev_other (by decide)]; exact e96_2
                            have e100_3 : F3.eval (.tmp 100) = Value.slice (some ⟨LB, lo + p * 32, none⟩) (nl - p) (c3 - p) := by rw [hF, ev_other (by decide)]; exact e100_2
                            have e97_3 : F3.eval (.tmp 97) = (.agg (u8s r1).toArray) := by rw [hF, ev_other (by decide)]; exact e97_2
                            have e15_3 : F3.eval (.tmp 15) = (.pointer (some ⟨gB, 0, none⟩)) := by rw [hF, ev_other (by decide)]; exact e15_2
                            have e101_3 : F3.eval (.tmp 101) = (.agg (u8s r2).toArray) := by rw [hF]; exact ev_same (by rw [z2]; decide)
                            have z3 : F3.tmps.size = 111 := by rw [hF, put_size]; exact z2
                            clear hF hA
                            refine wpAny_ready (rs := [8]) (by kernel_rfl) (by simp) ?_
                            refine AllReady.cons (o := { dst := some 14, op := Go.Op.alloc 27, type := 0, pos := "outright.go:40", after := #[], guard := none }) rfl (fun K hK => ?_) ?_
                            · refine st_alloc (by rfl) 27 (by rfl) _ halloc ?_
                              intro gA W4 q4 lA HA4
                              have Q4 := Q3.trans q4
                              have bA : W0.heap.size ≤ gA := Nat.le_trans Q3.size lA
                              have HB4 := blk_qt HB3 q4
                              have ne : gB ≠ gA := Nat.ne_of_lt (Nat.lt_of_lt_of_le (blk_lt HB3) lA)
                              refine hK _ _ ?_
                              clear hK K
                              refine gen_frame fun F4 hA => ?_
                              have hF : F4 = F3.put (some 14) (.pointer (some ⟨gA, 0, none⟩)) := hA
                              have hF4 := Lib.hid hF
                              have e96_4 : F4.eval (.tmp 96) = Value.slice (some ⟨LB, lo, none⟩) p c3 := by rw [hF, ev_other (by decide)]; exact e96_3
                              have e100_4 : F4.eval (.tmp 100) = Value.slice (some ⟨LB, lo + p * 32, none⟩) (nl - p) (c3 - p) := by rw [hF, ev_other (by decide)]; exact e100_3
                              have e97_4 : F4.eval (.tmp 97) = (.agg (u8s r1).toArray) := by rw [hF, ev_other (by decide)]; exact e97_3
                              have e15_4 : F4.eval (.tmp 15) = (.pointer (some ⟨gB, 0, none⟩)) := by rw [hF, ev_other (by decide)]; exact e15_3
                              have e101_4 : F4.eval (.tmp 101) = (.agg (u8s r2).toArray) := by rw [hF, ev_other (by decide)]; exact e101_3
                              have e14_4 : F4.eval (.tmp 14) = (.pointer (some ⟨gA, 0, none⟩)) := by rw [hF]; exact ev_same (by rw [z3]; decide)
                              have z4 : F4.tmps.size = 111 := by rw [hF, put_size]; exact z3
                              clear hF hA
                              refine wpAny_ready (rs := [10]) (by kernel_rfl) (by simp) ?_
                              refine AllReady.cons (o := { dst := none, op := Go.Op.store 27 (Go.Operand.tmp 14) (Go.Operand.tmp 97), type := 0, pos := "outright.go:40", after := #[{ on := 8, ground := Go.Ground.data }, { on := 3, ground := Go.Ground.data }, { on := 7, ground := Go.Ground.chain }, { on := 0, ground := Go.Ground.phase }, { on := 1, ground := Go.Ground.phase }, { on := 2, ground := Go.Ground.phase }, { on := 3, ground := Go.Ground.phase }, { on := 4, ground := Go.Ground.textOnly Go.Departure.lateStores }, { on := 5, ground := Go.Ground.textOnly Go.Departure.lateStores }, { on := 6, ground := Go.Ground.textOnly Go.Departure.lateStoresUnsure }, { on := 7, ground := Go.Ground.phase }, { on := 8, ground := Go.Ground.phase }, { on := 9, ground := Go.Ground.phase }], guard := none }) rfl (fun K hK => ?_) ?_
                              · refine st_store (by rfl) 27 (.tmp 14) (.tmp 97) (by rfl) gA (u8s r1).toArray e14_4 e97_4 27 _ HA4 HS1.out HZ1.out HU1.out ?_
                                intro W5 q5 HA5
                                have Q5 := qt_grown Q4 q5 bA
                                have HB5 := blk_far HB4 q5 (fun e => ne (by rw [e]))
                                refine hK _ _ ?_
                                clear hK K
                                refine gen_frame fun F5 hA => ?_
                                have hF : F5 = F4.put none undef := hA
                                have hF5 := Lib.hid hF
                                have e96_5 : F5.eval (.tmp 96) = Value.slice (some ⟨LB, lo, none⟩) p c3 := by rw [hF, ev_none]; exact e96_4
                                have e100_5 : F5.eval (.tmp 100) = Value.slice (some ⟨LB, lo + p * 32, none⟩) (nl - p) (c3 - p) := by rw [hF, ev_none]; exact e100_4
                                have e97_5 : F5.eval (.tmp 97) = (.agg (u8s r1).toArray) := by rw [hF, ev_none]; exact e97_4
                                have e15_5 : F5.eval (.tmp 15) = (.pointer (some ⟨gB, 0, none⟩)) := by rw [hF, ev_none]; exact e15_4
                                have e101_5 : F5.eval (.tmp 101) = (.agg (u8s r2).toArray) := by rw [hF, ev_none]; exact e101_4
                                have e14_5 : F5.eval (.tmp 14) = (.pointer (some ⟨gA, 0, none⟩)) := by rw [hF, ev_none]; exact e14_4
                                have z5 : F5.tmps.size = 111 := by rw [hF, put_size]; exact z4
                                clear hF hA
                                refine wpAny_ready (rs := [11]) (by kernel_rfl) (by simp) ?_
                                refine AllReady.cons (o := { dst := none, op := Go.Op.store 27 (Go.Operand.tmp 15) (Go.Operand.tmp 101), type := 0, pos := "outright.go:40", after := #[{ on := 9, ground := Go.Ground.data }, { on := 7, ground := Go.Ground.data }, { on := 10, ground := Go.Ground.chain }, { on := 0, ground := Go.Ground.phase }, { on := 1, ground := Go.Ground.phase }, { on := 2, ground := Go.Ground.phase }, { on := 3, ground := Go.Ground.phase }, { on := 4, ground := Go.Ground.phase }, { on := 5, ground := Go.Ground.phase }, { on := 6, ground := Go.Ground.phase }, { on := 7, ground := Go.Ground.phase }, { on := 8, ground := Go.Ground.phase }, { on := 9, ground := Go.Ground.phase }, { on := 10, ground := Go.Ground.phase }], guard := none }) rfl (fun K hK => ?_) ?_
                                · refine st_store (by rfl) 27 (.tmp 15) (.tmp 101) (by rfl) gB (u8s r2).toArray e15_5 e101_5 27 _ HB5 HS2.out HZ2.out HU2.out ?_
                                  intro W6 q6 HB6
                                  have Q6 := qt_grown Q5 q6 bB
                                  have HA6 := blk_far HA5 q6 (fun e => ne (by rw [e]))
                                  refine hK _ _ ?_
                                  clear hK K
                                  refine gen_frame fun F6 hA => ?_
                                  have hF : F6 = F5.put none undef := hA
                                  have hF6 := Lib.hid hF
                                  have e96_6 : F6.eval (.tmp 96) = Value.slice (some ⟨LB, lo, none⟩) p c3 := by rw [hF, ev_none]; exact e96_5
                                  have e100_6 : F6.eval (.tmp 100) = Value.slice (some ⟨LB, lo + p * 32, none⟩) (nl - p) (c3 - p) := by rw [hF, ev_none]; exact e100_5
                                  have e97_6 : F6.eval (.tmp 97) = (.agg (u8s r1).toArray) := by rw [hF, ev_none]; exact e97_5
                                  have e15_6 : F6.eval (.tmp 15) = (.pointer (some ⟨gB, 0, none⟩)) := by rw [hF, ev_none]; exact e15_5
                                  have e101_6 : F6.eval (.tmp 101) = (.agg (u8s r2).toArray) := by rw [hF, ev_none]; exact e101_5
                                  have e14_6 : F6.eval (.tmp 14) = (.pointer (some ⟨gA, 0, none⟩)) := by rw [hF, ev_none]; exact e14_5
                                  have z6 : F6.tmps.size = 111 := by rw [hF, put_size]; exact z5
                                  clear hF hA
                                  refine wpAny_done (by kernel_rfl) ?_ _
                                  rw [hF6.out, hF5.out, hF4.out, hF3.out, hF2.out, hF1.out, hF0.out]
                                  go_wp2_with fail
                                  go_meet
                                  exact ⟨gA, gB, rfl, rfl, HQ1.out.trans Q6, HA6, HB6⟩
                                exact AllReady.nil
                              exact AllReady.nil
                            exact AllReady.nil
                          refine AllReady.cons (o := { dst := some 14, op := Go.Op.alloc 27, type := 0, pos := "outright.go:40", after := #[], guard := none }) rfl (fun K hK => ?_) ?_
                          · refine st_alloc (by rfl) 27 (by rfl) _ halloc ?_
                            intro gA W3 q3 lA HA3
                            have Q3 := Q2.trans q3
                            have bA : W0.heap.size ≤ gA := Nat.le_trans Q2.size lA
                            have HB3 := blk_qt HB2 q3
                            have ne : gB ≠ gA := Nat.ne_of_lt (Nat.lt_of_lt_of_le (blk_lt HB2) lA)
                            refine hK _ _ ?_
                            clear hK K
                            refine gen_frame fun F3 hA => ?_
                            have hF : F3 = F2.put (some 14) (.pointer (some ⟨gA, 0, none⟩)) := hA
                            have hF3 := Lib.hid hF
                            have e96_3 : F3.eval (.tmp 96) = Value.slice (some ⟨LB, lo, none⟩) p c3 := by rw [hF, ev_other (by decide)]; exact e96_2
                            have e100_3 : F3.eval (.tmp 100) = Value.slice (some ⟨LB, lo + p * 32, none⟩) (nl - p) (c3 - p) := by rw [hF, ev_other (by decide)]; exact e100_2
                            have e97_3 : F3.eval (.tmp 97) = (.agg (u8s r1).toArray) := by rw [hF, ev_other (by decide)]; exact e97_2
                            have e15_3 : F3.eval (.tmp 15) = (.pointer (some ⟨gB, 0, none⟩)) := by rw [hF, ev_other (by decide)]; exact e15_2
                            have e14_3 : F3.eval (.tmp 14) = (.pointer (some ⟨gA, 0, none⟩)) := by rw [hF]; exact ev_same (by rw [z2]; decide)
                            have z3 : F3.tmps.size = 111 := by rw [hF, put_size]; exact z2
                            clear hF hA
                            refine wpAny_ready (rs := [7]) (by kernel_rfl) (by simp) ?_
                            refine AllReady.cons (o := { dst := some 101, op := Go.Op.call { callee := Go.Callee.value (Go.Operand.func 14), args := #[Go.Operand.tmp 100], argTypes := #[32] }, type := 27, pos := "outright.go:40", after := #[{ on := 6, ground := Go.Ground.data }, { on := 3, ground := Go.Ground.chain }], guard := none }) rfl (fun K hK => ?_) ?_
                            · refine st_call1 (by rfl) 14 (.tmp 100) 32 (by rfl) (Value.slice (some ⟨LB, lo + p * 32, none⟩) (nl - p) (c3 - p)) e100_3 (hcf _) _ (Qt W3) (HC2.out _ (HQ1.out.trans Q3)) ?_
                              intro W4 q4
                              have Q4 := Q3.trans q4
                              have HA4 := blk_qt HA3 q4
                              have HB4 := blk_qt HB3 q4
                              refine hK _ _ ?_
                              clear hK K
                              refine gen_frame fun F4 hA => ?_
                              have hF : F4 = F3.put (some 101) (.agg (u8s r2).toArray) := hA
                              have hF4 := Lib.hid hF
                              have e96_4 : F4.eval (.tmp 96) = Value.slice (some ⟨LB, lo, none⟩) p c3 := by rw [hF, ev_other (by decide)]; exact e96_3
                              have e100_4 : F4.eval (.tmp 100) = Value.slice (some ⟨LB, lo + p * 32, none⟩) (nl - p) (c3 - p) := by rw [hF, ev_other (by decide)]; exact e100_3
                              have e97_4 : F4.eval (.tmp 97) = (.agg (u8s r1).toArray) := by rw [hF, ev_other (by decide)]; exact e97_3
                              have e15_4 : F4.eval (.tmp 15) = (.pointer (some ⟨gB, 0, none⟩)) := by rw [hF, ev_other (by decide)]; exact e15_3
                              have e14_4 : F4.eval (.tmp 14) = (.pointer (some ⟨gA, 0, none⟩)) := by rw [hF, ev_other (by decide)]; exact e14_3
                              have e101_4 : F4.eval (.tmp 101) = (.agg (u8s r2).toArray) := by rw [hF]; exact ev_same (by rw [z3]; decide)
                              have z4 : F4.tmps.size = 111 := by rw [hF, put_size]; exact z3
                              clear hF hA
                              refine wpAny_ready (rs := [10]) (by kernel_rfl) (by simp) ?_
                              refine AllReady.cons (o := { dst := none, op := Go.Op.store 27 (Go.Operand.tmp 14) (Go.Operand.tmp 97), type := 0, pos := "outright.go:40", after := #[{ on := 8, ground := Go.Ground.data }, { on := 3, ground := Go.Ground.data }, { on := 7, ground := Go.Ground.chain }, { on := 0, ground := Go.Ground.phase }, { on := 1, ground := Go.Ground.phase }, { on := 2, ground := Go.Ground.phase }, { on := 3, ground := Go.Ground.phase }, { on := 4, ground := Go.Ground.textOnly Go.Departure.lateStores }, { on := 5, ground := Go.Ground.textOnly Go.Departure.lateStores }, { on := 6, ground := Go.Ground.textOnly Go.Departure.lateStoresUnsure }, { on := 7, ground := Go.Ground.phase }, { on := 8, ground := Go.Ground.phase }, { on := 9, ground := Go.Ground.phase }], guard := none }) rfl (fun K hK => ?_) ?_
                              · refine st_store (by rfl) 27 (.tmp 14) (.tmp 97) (by rfl) gA (u8s r1).toArray e14_4 e97_4 27 _ HA4 HS1.out HZ1.out HU1.out ?_
                                intro W5 q5 HA5
                                have Q5 := qt_grown Q4 q5 bA
                                have HB5 := blk_far HB4 q5 (fun e => ne (by rw [e]))
                                refine hK _ _ ?_
                                clear hK K
                                refine gen_frame fun F5 hA => ?_
                                have hF : F5 = F4.put none undef := hA
                                have hF5 := Lib.hid hF
                                have e96_5 : F5.eval (.tmp 96) = Value.slice (some ⟨LB, lo, none⟩) p c3 := by rw [hF, ev_none]; exact e96_4
                                have e100_5 : F5.eval (.tmp 100) = Value.slice (some ⟨LB, lo + p * 32, none⟩) (nl - p) (c3 - p) := by rw [hF, ev_none]; exact e100_4
                                have e97_5 : F5.eval (.tmp 97) = (.agg (u8s r1).toArray) := by rw [hF, ev_none]; exact e97_4
                                have e15_5 : F5.eval (.tmp 15) = (.pointer (some ⟨gB, 0, none⟩)) := by rw [hF, ev_none]; exact e15_4
                                have e14_5 : F5.eval (.tmp 14) = (.pointer (some ⟨gA, 0, none⟩)) := by rw [hF, ev_none]; exact e14_4
                                have e101_5 : F5.eval (.tmp 101) = (.agg (u8s r2).toArray) := by rw [hF, ev_none]; exact e101_4
                                have z5 : F5.tmps.size = 111 := by rw [hF, put_size]; exact z4
                                clear hF hA
                                refine wpAny_ready (rs := [11]) (by kernel_rfl) (by simp) ?_
                                refine AllReady.cons (o := { dst := none, op := Go.Op.store 27 (Go.Operand.tmp 15) (Go.Operand.tmp 101), type := 0, pos := "outright.go:40", after := #[{ on := 9, ground := Go.Ground.data }, { on := 7, ground := Go.Ground.data }, { on := 10, ground := Go.Ground.chain }, { on := 0, ground := Go.Ground.phase }, { on := 1, ground := Go.Ground.phase }, { on := 2, ground := Go.Ground.phase }, { on := 3, ground := Go.Ground.phase }, { on := 4, ground := Go.Ground.phase }, { on := 5, ground := Go.Ground.phase }, { on := 6, ground := Go.Ground.phase }, { on := 7, ground := Go.Ground.phase }, { on := 8, ground := Go.Ground.phase }, { on := 9, ground := Go.Ground.phase }, { on := 10, ground := Go.Ground.phase }], guard := none }) rfl (fun K hK => ?_) ?_
                                · refine st_store (by rfl) 27 (.tmp 15) (.tmp 101) (by rfl) gB (u8s r2).toArray e15_5 e101_5 27 _ HB5 HS2.out HZ2.out HU2.out ?_
                                  intro W6 q6 HB6
                                  have Q6 := qt_grown Q5 q6 bB
                                  have HA6 := blk_far HA5 q6 (fun e => ne (by rw [e]))
                                  refine hK _ _ ?_
                                  clear hK K
                                  refine gen_frame fun F6 hA => ?_
                                  have hF : F6 = F5.put none undef := hA
                                  have hF6 := Lib.hid hF
                                  have e96_6 : F6.eval (.tmp 96) = Value.slice (some ⟨LB, lo, none⟩) p c3 := by rw [hF, ev_none]; exact e96_5
                                  have e100_6 : F6.eval (.tmp 100) = Value.slice (some ⟨LB, lo + p * 32, none⟩) (nl - p) (c3 - p) := by rw [hF, ev_none]; exact e100_5
                                  have e97_6 : F6.eval (.tmp 97) = (.agg (u8s r1).toArray) := by rw [hF, ev_none]; exact e97_5
                                  have e15_6 : F6.eval (.tmp 15) = (.pointer (some ⟨gB, 0, none⟩)) := by rw [hF, ev_none]; exact e15_5
                                  have e14_6 : F6.eval (.tmp 14) = (.pointer (some ⟨gA, 0, none⟩)) := by rw [hF, ev_none]; exact e14_5
                                  have e101_6 : F6.eval (.tmp 101) = (.agg (u8s r2).toArray) := by rw [hF, ev_none]; exact e101_5
                                  have z6 : F6.tmps.size = 111 := by rw [hF, put_size]; exact z5
                                  clear hF hA
                                  refine wpAny_done (by kernel_rfl) ?_ _
                                  rw [hF6.out, hF5.out, hF4.out, hF3.out, hF2.out, hF1.out, hF0.out]
                                  go_wp2_with fail
                                  go_meet
                                  exact ⟨gA, gB, rfl, rfl, HQ1.out.trans Q6, HA6, HB6⟩
                                exact AllReady.nil
                              exact AllReady.nil
                            exact AllReady.nil
                          exact AllReady.nil
                        exact AllReady.nil
                      refine AllReady.cons (o := { dst := some 14, op := Go.Op.alloc 27, type := 0, pos := "outright.go:40", after := #[], guard := none }) rfl (fun K hK => ?_) ?_
                      · refine st_alloc (by rfl) 27 (by rfl) _ halloc ?_
                        intro gA W1 q1 lA HA1
                        have Q1 := Q0.trans q1
                        have bA : W0.heap.size ≤ gA := Nat.le_trans Q0.size lA
                        refine hK _ _ ?_
                        clear hK K
                        refine gen_frame fun F1 hA => ?_
                        have hF : F1 = F0.put (some 14) (.pointer (some ⟨gA, 0, none⟩)) := hA
                        have hF1 := Lib.hid hF
                        have e96_1 : F1.eval (.tmp 96) = Value.slice (some ⟨LB, lo, none⟩) p c3 := by rw [hF, ev_other (by decide)]; exact e96_0
                        have e100_1 : F1.eval (.tmp 100) = Value.slice (some ⟨LB, lo + p * 32, none⟩) (nl - p) (c3 - p) := by rw [hF, ev_other (by decide)]; exact e100_0
                        have e14_1 : F1.eval (.tmp 14) = (.pointer (some ⟨gA, 0, none⟩)) := by rw [hF]; exact ev_same (by rw [z0]; decide)
                        have z1 : F1.tmps.size = 111 := by rw [hF, put_size]; exact z0
                        clear hF hA
                        refine wpAny_ready (rs := [3, 9]) (by kernel_rfl) (by simp) ?_
                        refine AllReady.cons (o := { dst := some 97, op := Go.Op.call { callee := Go.Callee.value (Go.Operand.func 14), args := #[Go.Operand.tmp 96], argTypes := #[32] }, type := 27, pos := "outright.go:40", after := #[{ on := 2, ground := Go.Ground.data }], guard := none }) rfl (fun K hK => ?_) ?_
                        · refine st_call1 (by rfl) 14 (.tmp 96) 32 (by rfl) (Value.slice (some ⟨LB, lo, none⟩) p c3) e96_1 (hcf _) _ (Qt W1) (HC1.out _ (HQ1.out.trans Q1)) ?_
                          intro W2 q2
                          have Q2 := Q1.trans q2
                          have HA2 := blk_qt HA1 q2
                          refine hK _ _ ?_
                          clear hK K
                          refine gen_frame fun F2 hA => ?_
                          have hF : F2 = F1.put (some 97) (.agg (u8s r1).toArray) := hA
                          have hF2 := Lib.hid hF
                          have e96_2 : F2.eval (.tmp 96) = Value.slice (some ⟨LB, lo, none⟩) p c3 := by rw [hF, ev_other (by decide)]; exact e96_1
                          have e100_2 : F2.eval (.tmp 100) = Value.slice (some ⟨LB, lo + p * 32, none⟩) (nl - p) (c3 - p) := by rw [hF, ev_other (by decide)]; exact e100_1
                          have e14_2 : F2.eval (.tmp 14) = (.pointer (some ⟨gA, 0, none⟩)) := by rw [hF, ev_other (by decide)]; exact e14_1
                          have e97_2 : F2.eval (.tmp 97) = (.agg (u8s r1).toArray) := by rw [hF]; exact ev_same (by rw [z1]; decide)
                          have z2 : F2.tmps.size = 111 := by rw [hF, put_size]; exact z1
                          clear hF hA
                          refine wpAny_ready (rs := [7, 9]) (by kernel_rfl) (by simp) ?_
                          refine AllReady.cons (o := { dst := some 101, op := Go.Op.call { callee := Go.Callee.value (Go.Operand.func 14), args := #[Go.Operand.tmp 100], argTypes := #[32] }, type := 27, pos := "outright.go:40", after := #[{ on := 6, ground := Go.Ground.data }, { on := 3, ground := Go.Ground.chain }], guard := none }) rfl (fun K hK => ?_) ?_
                          · refine st_call1 (by rfl) 14 (.tmp 100) 32 (by rfl) (Value.slice (some ⟨LB, lo + p * 32, none⟩) (nl - p) (c3 - p)) e100_2 (hcf _) _ (Qt W2) (HC2.out _ (HQ1.out.trans Q2)) ?_
                            intro W3 q3
                            have Q3 := Q2.trans q3
                            have HA3 := blk_qt HA2 q3
                            refine hK _ _ ?_
                            clear hK K
                            refine gen_frame fun F3 hA => ?_
                            have hF : F3 = F2.put (some 101) (.agg (u8s r2).toArray) := hA
                            have hF3 := Lib.hid hF
                            have e96_3 : F3.eval (.tmp 96) = Value.slice (some ⟨LB, lo, none⟩) p c3 := by rw [hF, ev_other (by decide)]; exact e96_2
                            have e100_3 : F3.eval (.tmp 100) = Value.slice (some ⟨LB, lo + p * 32, none⟩) (nl - p) (c3 - p) := by rw [hF, ev_other (by decide)]; exact e100_2
                            have e14_3 : F3.eval (.tmp 14) = (.pointer (some ⟨gA, 0, none⟩)) := by rw [hF, ev_other (by decide)]; exact e14_2
                            have e97_3 : F3.eval (.tmp 97) = (.agg (u8s r1).toArray) := by rw [hF, ev_other (by decide)]; exact e97_2
                            have e101_3 : F3.eval (.tmp 101) = (.agg (u8s r2).toArray) := by rw [hF]; exact ev_same (by rw [z2]; decide)
                            have z3 : F3.tmps.size = 111 := by rw [hF, put_size]; exact z2
                            clear hF hA
                            refine wpAny_ready (rs := [9]) (by kernel_rfl) (by simp) ?_
                            refine AllReady.cons (o := { dst := some 15, op := Go.Op.alloc 27, type := 0, pos := "outright.go:40", after := #[], guard := none }) rfl (fun K hK => ?_) ?_
                            · refine st_alloc (by rfl) 27 (by rfl) _ halloc ?_
                              intro gB W4 q4 lB HB4
                              have Q4 := Q3.trans q4
                              have bB : W0.heap.size ≤ gB := Nat.le_trans Q3.size lB
                              have HA4 := blk_qt HA3 q4
                              have ne : gA ≠ gB := Nat.ne_of_lt (Nat.lt_of_lt_of_le (blk_lt HA3) lB)
                              refine hK _ _ ?_
                              clear hK K
                              refine gen_frame fun F4 hA => ?_
                              have hF : F4 = F3.put (some 15) (.pointer (some ⟨gB, 0, none⟩)) := hA
                              have hF4 := Lib.hid hF
                              have e96_4 : F4.eval (.tmp 96) = Value.slice (some ⟨LB, lo, none⟩) p c3 := by rw [hF, ev_other (by decide)]; exact e96_3
                              have e100_4 : F4.eval (.tmp 100) = Value.slice (some ⟨LB, lo + p * 32, none⟩) (nl - p) (c3 - p) := by rw [hF, ev_other (by decide)]; exact e100_3
                              have e14_4 : F4.eval (.tmp 14) = (.pointer (some ⟨gA, 0, none⟩)) := by rw [hF, ev_other (by decide)]; exact e14_3
                              have e97_4 : F4.eval (.tmp 97) = (.agg (u8s r1).toArray) := by rw [hF, ev_other (by decide)]; exact e97_3
                              have e101_4 : F4.eval (.tmp 101) = (.agg (u8s r2).toArray) := by rw [hF, ev_other (by decide)]; exact e101_3
                              have e15_4 : F4.eval (.tmp 15) = (.pointer (some ⟨gB, 0, none⟩)) := by rw [hF]; exact ev_same (by rw [z3]; decide)
                              have z4 : F4.tmps.size = 111 := by rw [hF, put_size]; exact z3
                              clear hF hA
                              refine wpAny_ready (rs := [10]) (by kernel_rfl) (by simp) ?_
                              refine AllReady.cons (o := { dst := none, op := Go.Op.store 27 (Go.Operand.tmp 14) (Go.Operand.tmp 97), type := 0, pos := "outright.go:40", after := #[{ on := 8, ground := Go.Ground.data }, { on := 3, ground := Go.Ground.data }, { on := 7, ground := Go.Ground.chain }, { on := 0, ground := Go.Ground.phase }, { on := 1, ground := Go.Ground.phase }, { on := 2, ground := Go.Ground.phase }, { on := 3, ground := Go.Ground.phase }, { on := 4, ground := Go.Ground.textOnly Go.Departure.lateStores }, { on := 5, ground := Go.Ground.textOnly Go.Departure.lateStores }, { on := 6, ground := Go.Ground.textOnly Go.Departure.lateStoresUnsure }, { on := 7, ground := Go.Ground.phase }, { on := 8, ground := Go.Ground.phase }, { on := 9, ground := Go.Ground.phase }], guard := none }) rfl (fun K hK => ?_) ?_
                              · refine st_store (by rfl) 27 (.tmp 14) (.tmp 97) (by rfl) gA (u8s r1).toArray e14_4 e97_4 27 _ HA4 HS1.out HZ1.out HU1.out ?_
                                intro W5 q5 HA5
                                have Q5 := qt_grown Q4 q5 bA
                                have HB5 := blk_far HB4 q5 (fun e => ne (by rw [e]))
                                refine hK _ _ ?_
                                clear hK K
                                refine gen_frame fun F5 hA => ?_
                                have hF : F5 = F4.put none undef := hA
                                have hF5 := Lib.hid hF
                                have e96_5 : F5.eval (.tmp 96) = Value.slice (some ⟨LB, lo, none⟩) p c3 := by rw [hF, ev_none]; exact e96_4
                                have e100_5 : F5.eval (.tmp 100) = Value.slice (some ⟨LB, lo + p * 32, none⟩) (nl - p) (c3 - p) := by rw [hF, ev_none]; exact e100_4
                                have e14_5 : F5.eval (.tmp 14) = (.pointer (some ⟨gA, 0, none⟩)) := by rw [hF, ev_none]; exact e14_4
                                have e97_5 : F5.eval (.tmp 97) = (.agg (u8s r1).toArray) := by rw [hF, ev_none]; exact e97_4
                                have e101_5 : F5.eval (.tmp 101) = (.agg (u8s r2).toArray) := by rw [hF, ev_none]; exact e101_4
                                have e15_5 : F5.eval (.tmp 15) = (.pointer (some ⟨gB, 0, none⟩)) := by rw [hF, ev_none]; exact e15_4
                                have z5 : F5.tmps.size = 111 := by rw [hF, put_size]; exact z4
                                clear hF hA
                                refine wpAny_ready (rs := [11]) (by kernel_rfl) (by simp) ?_
                                refine AllReady.cons (o := { dst := none, op := Go.Op.store 27 (Go.Operand.tmp 15) (Go.Operand.tmp 101), type := 0, pos := "outright.go:40", after := #[{ on := 9, ground := Go.Ground.data }, { on := 7, ground := Go.Ground.data }, { on := 10, ground := Go.Ground.chain }, { on := 0, ground := Go.Ground.phase }, { on := 1, ground := Go.Ground.phase }, { on := 2, ground := Go.Ground.phase }, { on := 3, ground := Go.Ground.phase }, { on := 4, ground := Go.Ground.phase }, { on := 5, ground := Go.Ground.phase }, { on := 6, ground := Go.Ground.phase }, { on := 7, ground := Go.Ground.phase }, { on := 8, ground := Go.Ground.phase }, { on := 9, ground := Go.Ground.phase }, { on := 10, ground := Go.Ground.phase }], guard := none }) rfl (fun K hK => ?_) ?_
                                · refine st_store (by rfl) 27 (.tmp 15) (.tmp 101) (by rfl) gB (u8s r2).toArray e15_5 e101_5 27 _ HB5 HS2.out HZ2.out HU2.out ?_
                                  intro W6 q6 HB6
                                  have Q6 := qt_grown Q5 q6 bB
                                  have HA6 := blk_far HA5 q6 (fun e => ne (by rw [e]))
                                  refine hK _ _ ?_
                                  clear hK K
                                  refine gen_frame fun F6 hA => ?_
                                  have hF : F6 = F5.put none undef := hA
                                  have hF6 := Lib.hid hF
                                  have e96_6 : F6.eval (.tmp 96) = Value.slice (some ⟨LB, lo, none⟩) p c3 := by rw [hF, ev_none]; exact e96_5
                                  have e100_6 : F6.eval (.tmp 100) = Value.slice (some ⟨LB, lo + p * 32, none⟩) (nl - p) (c3 - p) := by rw [hF, ev_none]; exact e100_5
                                  have e14_6 : F6.eval (.tmp 14) = (.pointer (some ⟨gA, 0, none⟩)) := by rw [hF, ev_none]; exact e14_5
                                  have e97_6 : F6.eval (.tmp 97) = (.agg (u8s r1).toArray) := by rw [hF, ev_none]; exact e97_5
                                  have e101_6 : F6.eval (.tmp 101) = (.agg (u8s r2).toArray) := by rw [hF, ev_none]; exact e101_5
                                  have e15_6 : F6.eval (.tmp 15) = (.pointer (some ⟨gB, 0, none⟩)) := by rw [hF, ev_none]; exact e15_5
                                  have z6 : F6.tmps.size = 111 := by rw [hF, put_size]; exact z5
                                  clear hF hA
                                  refine wpAny_done (by kernel_rfl) ?_ _
                                  rw [hF6.out, hF5.out, hF4.out, hF3.out, hF2.out, hF1.out, hF0.out]
                                  go_wp2_with fail
                                  go_meet
                                  exact ⟨gA, gB, rfl, rfl, HQ1.out.trans Q6, HA6, HB6⟩
                                exact AllReady.nil
                              exact AllReady.nil
                            exact AllReady.nil
                          refine AllReady.cons (o := { dst := some 15, op := Go.Op.alloc 27, type := 0, pos := "outright.go:40", after := #[], guard := none }) rfl (fun K hK => ?_) ?_
                          · refine st_alloc (by rfl) 27 (by rfl) _ halloc ?_
                            intro gB W3 q3 lB HB3
                            have Q3 := Q2.trans q3
                            have bB : W0.heap.size ≤ gB := Nat.le_trans Q2.size lB
                            have HA3 := blk_qt HA2 q3
                            have ne : gA ≠ gB := Nat.ne_of_lt (Nat.lt_of_lt_of_le (blk_lt HA2) lB)
                            refine hK _ _ ?_
                            clear hK K
                            refine gen_frame fun F3 hA => ?_
                            have hF : F3 = F2.put (some 15) (.pointer (some ⟨gB, 0, none⟩)) := hA
                            have hF3 := Lib.hid hF
                            have e96_3 : F3.eval (.tmp 96) = Value.slice (some ⟨LB, lo, none⟩) p c3 := by rw [hF, ev_other (by decide)]; exact e96_2
                            have e100_3 : F3.eval (.tmp 100) = Value.slice (some ⟨LB, lo + p * 32, none⟩) (nl - p) (c3 - p) := by rw [hF, ev_other (by decide)]; exact e100_2
                            have e14_3 : F3.eval (.tmp 14) = (.pointer (some ⟨gA, 0, none⟩)) := by rw [hF, ev_other (by decide)]; exact e14_2
                            have e97_3 : F3.eval (.tmp 97) = (.agg (u8s r1).toArray) := by rw [hF, ev_other (by decide)]; exact e97_2
                            have e15_3 : F3.eval (.tmp 15) = (.pointer (some ⟨gB, 0, none⟩)) := by rw [hF]; exact ev_same (by rw [z2]; decide)
                            have z3 : F3.tmps.size = 111 := by rw [hF, put_size]; exact z2
                            clear hF hA
                            refine wpAny_ready (rs := [7]) (by kernel_rfl) (by simp) ?_
                            refine AllReady.cons (o := { dst := some 101, op := Go.Op.call { callee := Go.Callee.value (Go.Operand.func 14), args := #[Go.Operand.tmp 100], argTypes := #[32] }, type := 27, pos := "outright.go:40", after := #[{ on := 6, ground := Go.Ground.data }, { on := 3, ground := Go.Ground.chain }], guard := none }) rfl (fun K hK => ?_) ?_
                            · refine st_call1 (by rfl) 14 (.tmp 100) 32 (by rfl) (Value.slice (some ⟨LB, lo + p * 32, none⟩) (nl - p) (c3 - p)) e100_3 (hcf _) _ (Qt W3) (HC2.out _ (HQ1.out.trans Q3)) ?_
                              intro W4 q4
                              have Q4 := Q3.trans q4
                              have HA4 := blk_qt HA3 q4
                              have HB4 := blk_qt HB3 q4
                              refine hK _ _ ?_
                              clear hK K
                              refine gen_frame fun F4 hA => ?_
                              have hF : F4 = F3.put (some 101) (.agg (u8s r2).toArray) := hA
                              have hF4 := Lib.hid hF
                              have e96_4 : F4.eval (.tmp 96) = Value.slice (some ⟨LB, lo, none⟩) p c3 := by rw [hF, ev_other (by decide)]; exact e96_3
                              have e100_4 : F4.eval (.tmp 100) = Value.slice (some ⟨LB, lo + p * 32, none⟩) (nl - p) (c3 - p) := by rw [hF, ev_other (by decide)]; exact e100_3
                              have e14_4 : F4.eval (.tmp 14) = (.pointer (some ⟨gA, 0, none⟩)) := by rw [hF, ev_other (by decide)]; exact e14_3
                              have e97_4 : F4.eval (.tmp 97) = (.agg (u8s r1).toArray) := by rw [hF, ev_other (by decide)]; exact e97_3
                              have e15_4 : F4.eval (.tmp 15) = (.pointer (some ⟨gB, 0, none⟩)) := by rw [hF, ev_other (by decide)]; exact e15_3
                              have e101_4 : F4.eval (.tmp 101) = (.agg (u8s r2).toArray) := by rw [hF]; exact ev_same (by rw [z3]; decide)
                              have z4 : F4.tmps.size = 111 := by rw [hF, put_size]; exact z3
                              clear hF hA
                              refine wpAny_ready (rs := [10]) (by kernel_rfl) (by simp) ?_
                              refine AllReady.cons (o := { dst := none, op := Go.Op.store 27 (Go.Operand.tmp 14) (Go.Operand.tmp 97), type := 0, pos := "outright.go:40", after := #[{ on := 8, ground := Go.Ground.data }, { on := 3, ground := Go.Ground.data }, { on := 7, ground := Go.Ground.chain }, { on := 0, ground := Go.Ground.phase }, { on := 1, ground := Go.Ground.phase }, { on := 2, ground := Go.Ground.phase }, { on := 3, ground := Go.Ground.phase }, { on := 4, ground := Go.Ground.textOnly Go.Departure.lateStores }, { on := 5, ground := Go.Ground.textOnly Go.Departure.lateStores }, { on := 6, ground := Go.Ground.textOnly Go.Departure.lateStoresUnsure }, { on := 7, ground := Go.Ground.phase }, { on := 8, ground := Go.Ground.phase }, { on := 9, ground := Go.Ground.phase }], guard := none }) rfl (fun K hK => ?_) ?_
                              · refine st_store (by rfl) 27 (.tmp 14) (.tmp 97) (by rfl) gA (u8s r1).toArray e14_4 e97_4 27 _ HA4 HS1.out HZ1.out HU1.out ?_
                                intro W5 q5 HA5
                                have Q5 := qt_grown Q4 q5 bA
                                have HB5 := blk_far HB4 q5 (fun e => ne (by rw [e]))
                                refine hK _ _ ?_
                                clear hK K
                                refine gen_frame fun F5 hA => ?_
                                have hF : F5 = F4.put none undef := hA
                                have hF5 := Lib.hid hF
                                have e96_5 : F5.eval (.tmp 96) = Value.slice (some ⟨LB, lo, none⟩) p c3 := by rw [hF, ev_none]; exact e96_4
                                have e100_5 : F5.eval (.tmp 100) = Value.slice (some ⟨LB, lo + p * 32, none⟩) (nl - p) (c3 - p) := by rw [hF, ev_none]; exact e100_4
                                have e14_5 : F5.eval (.tmp 14) = (.pointer (some ⟨gA, 0, none⟩)) := by rw [hF, ev_none]; exact e14_4
                                have e97_5 : F5.eval (.tmp 97) = (.agg (u8s r1).toArray) := by rw [hF, ev_none]; exact e97_4
                                have e15_5 : F5.eval (.tmp 15) = (.pointer (some ⟨gB, 0, none⟩)) := by rw [hF, ev_none]; exact e15_4
                                have e101_5 : F5.eval (.tmp 101) = (.agg (u8s r2).toArray) := by rw [hF, ev_none]; exact e101_4
                                have z5 : F5.tmps.size = 111 := by rw [hF, put_size]; exact z4
                                clear hF hA
                                refine wpAny_ready (rs := [11]) (by kernel_rfl) (by simp) ?_
                                refine AllReady.cons (o := { dst := none, op := Go.Op.store 27 (Go.Operand.tmp 15) (Go.Operand.tmp 101), type := 0, pos := "outright.go:40", after := #[{ on := 9, ground := Go.Ground.data }, { on := 7, ground := Go.Ground.data }, { on := 10, ground := Go.Ground.chain }, { on := 0, ground := Go.Ground.phase }, { on := 1, ground := Go.Ground.phase }, { on := 2, ground := Go.Ground.phase }, { on := 3, ground := Go.Ground.phase }, { on := 4, ground := Go.Ground.phase }, { on := 5, ground := Go.Ground.phase }, { on := 6, ground := Go.Ground.phase }, { on := 7, ground := Go.Ground.phase }, { on := 8, ground := Go.Ground.phase }, { on := 9, ground := Go.Ground.phase }, { on := 10, ground := Go.Ground.phase }], guard := none }) rfl (fun K hK => ?_) ?_
                                · refine st_store (by rfl) 27 (.tmp 15) (.tmp 101) (by rfl) gB (u8s r2).toArray e15_5 e101_5 27 _ HB5 HS2.out HZ2.out HU2.out ?_
                                  intro W6 q6 HB6
                                  have Q6 := qt_grown Q5 q6 bB
                                  have HA6 := blk_far HA5 q6 (fun e => ne (by rw [e]))
                                  refine hK _ _ ?_
                                  clear hK K
                                  refine gen_frame fun F6 hA => ?_
                                  have hF : F6 = F5.put none undef := hA
                                  have hF6 := Lib.hid hF
                                  have e96_6 : F6.eval (.tmp 96) = Value.slice (some ⟨LB, lo, none⟩) p c3 := by rw [hF, ev_none]; exact e96_5
                                  have e100_6 : F6.eval (.tmp 100) = Value.slice (some ⟨LB, lo + p * 32, none⟩) (nl - p) (c3 - p) := by rw [hF, ev_none]; exact e100_5
                                  have e14_6 : F6.eval (.tmp 14) = (.pointer (some ⟨gA, 0, none⟩)) := by rw [hF, ev_none]; exact e14_5
                                  have e97_6 : F6.eval (.tmp 97) = (.agg (u8s r1).toArray) := by rw [hF, ev_none]; exact e97_5
                                  have e15_6 : F6.eval (.tmp 15) = (.pointer (some ⟨gB, 0, none⟩)) := by rw [hF, ev_none]; exact e15_5
                                  have e101_6 : F6.eval (.tmp 101) = (.agg (u8s r2).toArray) := by rw [hF, ev_none]; exact e101_5
                                  have z6 : F6.tmps.size = 111 := by rw [hF, put_size]; exact z5
                                  clear hF hA
                                  refine wpAny_done (by kernel_rfl) ?_ _
                                  rw [hF6.out, hF5.out, hF4.out, hF3.out, hF2.out, hF1.out, hF0.out]
                                  go_wp2_with fail
                                  go_meet
                                  exact ⟨gA, gB, rfl, rfl, HQ1.out.trans Q6, HA6, HB6⟩
                                exact AllReady.nil
                              exact AllReady.nil
                            exact AllReady.nil
                          exact AllReady.nil
                        refine AllReady.cons (o := { dst := some 15, op := Go.Op.alloc 27, type := 0, pos := "outright.go:40", after := #[], guard := none }) rfl (fun K hK => ?_) ?_
                        · refine st_alloc (by rfl) 27 (by rfl) _ halloc ?_
                          intro gB W2 q2 lB HB2
                          have Q2 := Q1.trans q2
                          have bB : W0.heap.size ≤ gB := Nat.le_trans Q1.size lB
                          have HA2 := blk_qt HA1 q2
                          have ne : gA ≠ gB := Nat.ne_of_lt (Nat.lt_of_lt_of_le (blk_lt HA1) lB)
                          refine hK _ _ ?_
                          clear hK K
                          refine gen_frame fun F2 hA => ?_
                          have hF : F2 = F1.put (some 15) (.pointer (some ⟨gB, 0, none⟩)) := hA
                          have hF2 := Lib.hid hF
                          have e96_2 : F2.eval (.tmp 96) = Value.slice (some ⟨LB, lo, none⟩) p c3 := by rw [hF, ev_other (by decide)]; exact e96_1
                          have e100_2 : F2.eval (.tmp 100) = Value.slice (some ⟨LB, lo + p * 32, none⟩) (nl - p) (c3 - p) := by rw [hF, ev_other (by decide)]; exact e100_1
                          have e14_2 : F2.eval (.tmp 14) = (.pointer (some ⟨gA, 0, none⟩)) := by rw [hF, ev_other (by decide)]; exact e14_1
                          have e15_2 : F2.eval (.tmp 15) = (.pointer (some ⟨gB, 0, none⟩)) := by rw [hF]; exact ev_same (by rw [z1]; decide)
                          have z2 : F2.tmps.size = 111 := by rw [hF, put_size]; exact z1
                          clear hF hA
                          refine wpAny_ready (rs := [3]) (by kernel_rfl) (by simp) ?_
                          refine AllReady.cons (o := { dst := some 97, op := Go.Op.call { callee := Go.Callee.value (Go.Operand.func 14), args := #[Go.Operand.tmp 96], argTypes := #[32] }, type := 27, pos := "outright.go:40", after := #[{ on := 2, ground := Go.Ground.data }], guard := none }) rfl (fun K hK => ?_) ?_
                          · refine st_call1 (by rfl) 14 (.tmp 96) 32 (by rfl) (Value.slice (some ⟨LB, lo, none⟩) p c3) e96_2 (hcf _) _ (Qt W2) (HC1.out _ (HQ1.out.trans Q2)) ?_
                            intro W3 q3
                            have Q3 := Q2.trans q3
                            have HA3 := blk_qt HA2 q3
                            have HB3 := blk_qt HB2 q3
                            refine hK _ _ ?_
                            clear hK K
                            refine gen_frame fun F3 hA => ?_
                            have hF : F3 = F2.put (some 97) (.agg (u8s r1).toArray) := hA
                            have hF3 := Lib.hid hF
                            have e96_3 : F3.eval (.tmp 96) = Value.slice (some ⟨LB, lo, none⟩) p c3 := by rw [hF, ev_other (by decide)]; exact e96_2
                            have e100_3 : F3.eval (.tmp 100) = Value.slice (some ⟨LB, lo + p * 32, none⟩) (nl - p) (c3 - p) := by rw [hF, ev_other (by decide)]; exact e100_2
                            have e14_3 : F3.eval (.tmp 14) = (.pointer (some ⟨gA, 0, none⟩)) := by rw [hF, ev_other (by decide)]; exact e14_2
                            have e15_3 : F3.eval (.tmp 15) = (.pointer (some ⟨gB, 0, none⟩)) := by rw [hF, ev_other (by decide)]; exact e15_2
                            have e97_3 : F3.eval (.tmp 97) = (.agg (u8s r1).toArray) := by rw [hF]; exact ev_same (by rw [z2]; decide)
                            have z3 : F3.tmps.size = 111 := by rw [hF, put_size]; exact z2
                            clear hF hA
                            refine wpAny_ready (rs := [7]) (by kernel_rfl) (by simp) ?_
                            refine AllReady.cons (o := { dst := some 101, op := Go.Op.call { callee := Go.Callee.value (Go.Operand.func 14), args := #[Go.Operand.tmp 100], argTypes := #[32] }, type := 27, pos := "outright.go:40", after := #[{ on := 6, ground := Go.Ground.data }, { on := 3, ground := Go.Ground.chain }], guard := none }) rfl (fun K hK => ?_) ?_
                            · refine st_call1 (by rfl) 14 (.tmp 100) 32 (by rfl) (Value.slice (some ⟨LB, lo + p * 32, none⟩) (nl - p) (c3 - p)) e100_3 (hcf _) _ (Qt W3) (HC2.out _ (HQ1.out.trans Q3)) ?_
                              intro W4 q4
                              have Q4 := Q3.trans q4
                              have HA4 := blk_qt HA3 q4
                              have HB4 := blk_qt HB3 q4
                              refine hK _ _ ?_
                              clear hK K
                              refine gen_frame fun F4 hA => ?_
                              have hF : F4 = F3.put (some 101) (.agg (u8s r2).toArray) := hA
                              have hF4 := Lib.hid hF
                              have e96_4 : F4.eval (.tmp 96) = Value.slice (some ⟨LB, lo, none⟩) p c3 := by rw [hF, ev_other (by decide)]; exact e96_3
                              have e100_4 : F4.eval (.tmp 100) = Value.slice (some ⟨LB, lo + p * 32, none⟩) (nl - p) (c3 - p) := by rw [hF, ev_other (by decide)]; exact e100_3
                              have e14_4 : F4.eval (.tmp 14) = (.pointer (some ⟨gA, 0, none⟩)) := by rw [hF, ev_other (by decide)]; exact e14_3
                              have e15_4 : F4.eval (.tmp 15) = (.pointer (some ⟨gB, 0, none⟩)) := by rw [hF, ev_other (by decide)]; exact e15_3
                              have e97_4 : F4.eval (.tmp 97) = (.agg (u8s r1).toArray) := by rw [hF, ev_other (by decide)]; exact e97_3
                              have e101_4 : F4.eval (.tmp 101) = (.agg (u8s r2).toArray) := by rw [hF]; exact ev_same (by rw [z3]; decide)
                              have z4 : F4.tmps.size = 111 := by rw [hF, put_size]; exact z3
                              clear hF hA
                              refine wpAny_ready (rs := [10]) (by kernel_rfl) (by simp) ?_
                              refine AllReady.cons (o := { dst := none, op := Go.Op.store 27 (Go.Operand.tmp 14) (Go.Operand.tmp 97), type := 0, pos := "outright.go:40", after := #[{ on := 8, ground := Go.Ground.data }, { on := 3, ground := Go.Ground.data }, { on := 7, ground := Go.Ground.chain }, { on := 0, ground := Go.Ground.phase }, { on := 1, ground := Go.Ground.phase }, { on := 2, ground := Go.Ground.phase }, { on := 3, ground := Go.Ground.phase }, { on := 4, ground := Go.Ground.textOnly Go.Departure.lateStores }, { on := 5, ground := Go.Ground.textOnly Go.Departure.lateStores }, { on := 6, ground := Go.Ground.textOnly Go.Departure.lateStoresUnsure }, { on := 7, ground := Go.Ground.phase }, { on := 8, ground := Go.Ground.phase }, { on := 9, ground := Go.Ground.phase }], guard := none }) rfl (fun K hK => ?_) ?_
                              · refine st_store (by rfl) 27 (.tmp 14) (.tmp 97) (by rfl) gA (u8s r1).toArray e14_4 e97_4 27 _ HA4 HS1.out HZ1.out HU1.out ?_
                                intro W5 q5 HA5
                                have Q5 := qt_grown Q4 q5 bA
                                have HB5 := blk_far HB4 q5 (fun e => ne (by rw [e]))
                                refine hK _ _ ?_
                                clear hK K
                                refine gen_frame fun F5 hA => ?_
                                have hF : F5 = F4.put none undef := hA
                                have hF5 := Lib.hid hF
                                have e96_5 : F5.eval (.tmp 96) = Value.slice (some ⟨LB, lo, none⟩) p c3 := by rw [hF, ev_none]; exact e96_4
                                have e100_5 : F5.eval (.tmp 100) = Value.slice (some ⟨LB, lo + p * 32, none⟩) (nl - p) (c3 - p) := by rw [hF, ev_none]; exact e100_4
                                have e14_5 : F5.eval (.tmp 14) = (.pointer (some ⟨gA, 0, none⟩)) := by rw [hF, ev_none]; exact e14_4
                                have e15_5 : F5.eval (.tmp 15) = (.pointer (some ⟨gB, 0, none⟩)) := by rw [hF, ev_none]; exact e15_4
                                have e97_5 : F5.eval (.tmp 97) = (.agg (u8s r1).toArray) := by rw [hF, ev_none]; exact e97_4
                                have e101_5 : F5.eval (.tmp 101) = (.agg (u8s r2).toArray) := by rw [hF, ev_none]; exact e101_4
                                have z5 : F5.tmps.size = 111 := by rw [hF, put_size]; exact z4
                                clear hF hA
                                refine wpAny_ready (rs := [11]) (by kernel_rfl) (by simp) ?_
                                refine AllReady.cons (o := { dst := none, op := Go.Op.store 27 (Go.Operand.tmp 15) (Go.Operand.tmp 101), type := 0, pos := "outright.go:40", after := #[{ on := 9, ground := Go.Ground.data }, { on := 7, ground := Go.Ground.data }, { on := 10, ground := Go.Ground.chain }, { on := 0, ground := Go.Ground.phase }, { on := 1, ground := Go.Ground.phase }, { on := 2, ground := Go.Ground.phase }, { on := 3, ground := Go.Ground.phase }, { on := 4, ground := Go.Ground.phase }, { on := 5, ground := Go.Ground.phase }, { on := 6, ground := Go.Ground.phase }, { on := 7, ground := Go.Ground.phase }, { on := 8, ground := Go.Ground.phase }, { on := 9, ground := Go.Ground.phase }, { on := 10, ground := Go.Ground.phase }], guard := none }) rfl (fun K hK => ?_) ?_
                                · refine st_store (by rfl) 27 (.tmp 15) (.tmp 101) (by rfl) gB (u8s r2).toArray e15_5 e101_5 27 _ HB5 HS2.out HZ2.out HU2.out ?_
                                  intro W6 q6 HB6
                                  have Q6 := qt_grown Q5 q6 bB
                                  have HA6 := blk_far HA5 q6 (fun e => ne (by rw [e]))
                                  refine hK _ _ ?_
                                  clear hK K
                                  refine gen_frame fun F6 hA => ?_
                                  have hF : F6 = F5.put none undef := hA
                                  have hF6 := Lib.hid hF
                                  have e96_6 : F6.eval (.tmp 96) = Value.slice (some ⟨LB, lo, none⟩) p c3 := by rw [hF, ev_none]; exact e96_5
                                  have e100_6 : F6.eval (.tmp 100) = Value.slice (some ⟨LB, lo + p * 32, none⟩) (nl - p) (c3 - p) := by rw [hF, ev_none]; exact e100_5
                                  have e14_6 : F6.eval (.tmp 14) = (.pointer (some ⟨gA, 0, none⟩)) := by rw [hF, ev_none]; exact e14_5
                                  have e15_6 : F6.eval (.tmp 15) = (.pointer (some ⟨gB, 0, none⟩)) := by rw [hF, ev_none]; exact e15_5
                                  have e97_6 : F6.eval (.tmp 97) = (.agg (u8s r1).toArray) := by rw [hF, ev_none]; exact e97_5
                                  have e101_6 : F6.eval (.tmp 101) = (.agg (u8s r2).toArray) := by rw [hF, ev_none]; exact e101_5
                                  have z6 : F6.tmps.size = 111 := by rw [hF, put_size]; exact z5
                                  clear hF hA
                                  refine wpAny_done (by kernel_rfl) ?_ _
                                  rw [hF6.out, hF5.out, hF4.out, hF3.out, hF2.out, hF1.out, hF0.out]
                                  go_wp2_with fail
                                  go_meet
                                  exact ⟨gA, gB, rfl, rfl, HQ1.out.trans Q6, HA6, HB6⟩
                                exact AllReady.nil
                              exact AllReady.nil
                            exact AllReady.nil
                          exact AllReady.nil
                        exact AllReady.nil
                      refine AllReady.cons (o := { dst := some 15, op := Go.Op.alloc 27, type := 0, pos := "outright.go:40", after := #[], guard := none }) rfl (fun K hK => ?_) ?_
                      · refine st_alloc (by rfl) 27 (by rfl) _ halloc ?_
                        intro gB W1 q1 lB HB1
                        have Q1 := Q0.trans q1
                        have bB : W0.heap.size ≤ gB := Nat.le_trans Q0.size lB
                        refine hK _ _ ?_
                        clear hK K
                        refine gen_frame fun F1 hA => ?_
                        have hF : F1 = F0.put (some 15) (.pointer (some ⟨gB, 0, none⟩)) := hA
                        have hF1 := Lib.hid hF
                        have e96_1 : F1.eval (.tmp 96) = Value.slice (some ⟨LB, lo, none⟩) p c3 := by rw [hF, ev_other (by decide)]; exact e96_0
                        have e100_1 : F1.eval (.tmp 100) = Value.slice (some ⟨LB, lo + p * 32, none⟩) (nl - p) (c3 - p) := by rw [hF, ev_other (by decide)]; exact e100_0
                        have e15_1 : F1.eval (.tmp 15) = (.pointer (some ⟨gB, 0, none⟩)) := by rw [hF]; exact ev_same (by rw [z0]; decide)
                        have z1 : F1.tmps.size = 111 := by rw [hF, put_size]; exact z0
                        clear hF hA
                        refine wpAny_ready (rs := [3, 8]) (by kernel_rfl) (by simp) ?_
                        refine AllReady.cons (o := { dst := some 97, op := Go.Op.call { callee := Go.Callee.value (Go.Operand.func 14), args := #[Go.Operand.tmp 96], argTypes := #[32] }, type := 27, pos := "outright.go:40", after := #[{ on := 2, ground := Go.Ground.data }], guard := none }) rfl (fun K hK => ?_) ?_
                        · refine st_call1 (by rfl) 14 (.tmp 96) 32 (by rfl) (Value.slice (some ⟨LB, lo, none⟩) p c3) e96_1 (hcf _) _ (Qt W1) (HC1.out _ (HQ1.out.trans Q1)) ?_
                          intro W2 q2
                          have Q2 := Q1.trans q2
                          have HB2 := blk_qt HB1 q2
                          refine hK _ _ ?_
                          clear hK K
                          refine gen_frame fun F2 hA => ?_
                          have hF : F2 = F1.put (some 97) (.agg (u8s r1).toArray) := hA
                          have hF2 := Lib.hid hF
                          have e96_2 : F2.eval (.tmp 96) = Value.slice (some ⟨LB, lo, none⟩) p c3 := by rw [hF, ev_other (by decide)]; exact e96_1
                          have e100_2 : F2.eval (.tmp 100) = Value.slice (some ⟨LB, lo + p * 32, none⟩) (nl - p) (c3 - p) := by rw [hF, ev_other (by decide)]; exact e100_1
                          have e15_2 : F2.eval (.tmp 15) = (.pointer (some ⟨gB, 0, none⟩)) := by rw [hF, ev_other (by decide)]; exact e15_1
                          have e97_2 : F2.eval (.tmp 97) = (.agg (u8s r1).toArray) := by rw [hF]; exact ev_same (by rw [z1]; decide)
                          have z2 : F2.tmps.size = 111 := by rw [hF, put_size]; exact z1
                          clear hF hA
                          refine wpAny_ready (rs := [7, 8]) (by kernel_rfl) (by simp) ?_
                          refine AllReady.cons (o := { dst := some 101, op := Go.Op.call { callee := Go.Callee.value (Go.Operand.func 14), args := #[Go.Operand.tmp 100], argTypes := #[32] }, type := 27, pos := "outright.go:40", after := #[{ on := 6, ground := Go.Ground.data }, { on := 3, ground := Go.Ground.chain }], guard := none }) rfl (fun K hK => ?_) ?_
                          · refine st_call1 (by rfl) 14 (.tmp 100) 32 (by rfl) (Value.slice (some ⟨LB, lo + p * 32, none⟩) (nl - p) (c3 - p)) e100_2 (hcf _) _ (Qt W2) (HC2.out _ (HQ1.out.trans Q2)) ?_
                            intro W3 q3
                            have Q3 := Q2.trans q3
                            have HB3 := blk_qt HB2 q3
                            refine hK _ _ ?_
                            clear hK K
                            refine gen_frame fun F3 hA => ?_
                            have hF : F3 = F2.put (some 101) (.agg (u8s r2).toArray) := hA
                            have hF3 := Lib.hid hF
                            have e96_3 : F3.eval (.tmp 96) = Value.slice (some ⟨LB, lo, none⟩) p c3 := by rw [hF, ev_other (by decide)]; exact e96_2
                            have e100_3 : F3.eval (.tmp 100) = Value.slice (some ⟨LB, lo + p * 32, none⟩) (nl - p) (c3 - p) := by rw [hF, ev_other (by decide)]; exact e100_2
                            have e15_3 : F3.eval (.tmp 15) = (.pointer (some ⟨gB, 0, none⟩)) := by rw [hF, ev_other (by decide)]; exact e15_2
                            have e97_3 : F3.eval (.tmp 97) = (.agg (u8s r1).toArray) := by rw [hF, ev_other (by decide)]; exact e97_2
                            have e101_3 : F3.eval (.tmp 101) = (.agg (u8s r2).toArray) := by rw [hF]; exact ev_same (by rw [z2]; decide)
                            have z3 : F3.tmps.size = 111 := by rw [hF, put_size]; exact z2
                            clear hF hA
                            refine wpAny_ready (rs := [8]) (by kernel_rfl) (by simp) ?_
                            refine AllReady.cons (o := { dst := some 14, op := Go.Op.alloc 27, type := 0, pos := "outright.go:40", after := #[], guard := none }) rfl (fun K hK => ?_) ?_
                            · refine st_alloc (by rfl) 27 (by rfl) _ halloc ?_
                              intro gA W4 q4 lA HA4
                              have Q4 := Q3.trans q4
                              have bA : W0.heap.size ≤ gA := Nat.le_trans Q3.size lA
                              have HB4 := blk_qt HB3 q4
                              have ne : gB ≠ gA := Nat.ne_of_lt (Nat.lt_of_lt_of_le (blk_lt HB3) lA)
                              refine hK _ _ ?_
                              clear hK K
                              refine gen_frame fun F4 hA => ?_
                              have hF : F4 = F3.put (some 14) (.pointer (some ⟨gA, 0, none⟩)) := hA
                              have hF4 := Lib.hid hF
                              have e96_4 : F4.eval (.tmp 96) = Value.slice (some ⟨LB, lo, none⟩) p c3 := by rw [hF, ev_other (by decide)]; exact e96_3
                              have e100_4 : F4.eval (.tmp 100) = Value.slice (some ⟨LB, lo + p * 32, none⟩) (nl - p) (c3 - p) := by rw [hF, ev_other (by decide)]; exact e100_3
                              have e15_4 : F4.eval (.tmp 15) = (.pointer (some ⟨gB, 0, none⟩)) := by rw [hF, ev_other (by decide)]; exact e15_3
                              have e97_4 : F4.eval (.tmp 97) = (.agg (u8s r1).toArray) := by rw [hF, ev_other (by decide)]; exact e97_3
                              have e101_4 : F4.eval (.tmp 101) = (.agg (u8s r2).toArray) := by rw [hF, ev_other (by decide)]; exact e101_3
                              have e14_4 : F4.eval (.tmp 14) = (.pointer (some ⟨gA, 0, none⟩)) := by rw [hF]; exact ev_same (by rw [z3]; decide)
                              have z4 : F4.tmps.size = 111 := by rw [hF, put_size]; exact z3
                              clear hF hA
                              refine wpAny_ready (rs := [10]) (by kernel_rfl) (by simp) ?_
                              refine AllReady.cons (o := { dst := none, op := Go.Op.store 27 (Go.Operand.tmp 14) (Go.Operand.tmp 97), type := 0, pos := "outright.go:40", after := #[{ on := 8, ground := Go.Ground.data }, { on := 3, ground := Go.Ground.data }, { on := 7, ground := Go.Ground.chain }, { on := 0, ground := Go.Ground.phase }, { on := 1, ground := Go.Ground.phase }, { on := 2, ground := Go.Ground.phase }, { on := 3, ground := Go.Ground.phase }, { on := 4, ground := Go.Ground.textOnly Go.Departure.lateStores }, { on := 5, ground := Go.Ground.textOnly Go.Departure.lateStores }, { on := 6, ground := Go.Ground.textOnly Go.Departure.lateStoresUnsure }, { on := 7, ground := Go.Ground.phase }, { on := 8, ground := Go.Ground.phase }, { on := 9, ground := Go.Ground.phase }], guard := none }) rfl (fun K hK => ?_) ?_
                              · refine st_store (by rfl) 27 (.tmp 14) (.tmp 97) (by rfl) gA (u8s r1).toArray e14_4 e97_4 27 _ HA4 HS1.out HZ1.out HU1.out ?_
                                intro W5 q5 HA5
                                have Q5 := qt_grown Q4 q5 bA
                                have HB5 := blk_far HB4 q5 (fun e => ne (by rw [e]))
                                refine hK _ _ ?_
                                clear hK K
                                refine gen_frame fun F5 hA => ?_
                                have hF : F5 = F4.put none undef := hA
                                have hF5 := Lib.hid hF
                                have e96_5 : F5.eval (.tmp 96) = Value.slice (some ⟨LB, lo, none⟩) p c3 := by rw [hF, ev_none]; exact e96_4
                                have e100_5 : F5.eval (.tmp 100) = Value.slice (some ⟨LB, lo + p * 32, none⟩) (nl - p) (c3 - p) := by rw [hF, ev_none]; exact e100_4
                                have e15_5 : F5.eval (.tmp 15) = (.pointer (some ⟨gB, 0, none⟩)) := by rw [hF, ev_none]; exact e15_4
                                have e97_5 : F5.eval (.tmp 97) = (.agg (u8s r1).toArray) := by rw [hF, ev_none]; exact e97_4
                                have e101_5 : F5.eval (.tmp 101) = (.agg (u8s r2).toArray) := by rw [hF, ev_none]; exact e101_4
                                have e14_5 : F5.eval (.tmp 14) = (.pointer (some ⟨gA, 0, none⟩)) := by rw [hF, ev_none]; exact e14_4
                                have z5 : F5.tmps.size = 111 := by rw [hF, put_size]; exact z4
                                clear hF hA
                                refine wpAny_ready (rs := [11]) (by kernel_rfl) (by simp) ?_
                                refine AllReady.cons (o := { dst := none, op := Go.Op.store 27 (Go.Operand.tmp 15) (Go.Operand.tmp 101), type := 0, pos := "outright.go:40", after := #[{ on := 9, ground := Go.Ground.data }, { on := 7, ground := Go.Ground.data }, { on := 10, ground := Go.Ground.chain }, { on := 0, ground := Go.Ground.phase }, { on := 1, ground := Go.Ground.phase }, { on := 2, ground := Go.Ground.phase }, { on := 3, ground := Go.Ground.phase }, { on := 4, ground := Go.Ground.phase }, { on := 5, ground := Go.Ground.phase }, { on := 6, ground := Go.Ground.phase }, { on := 7, ground := Go.Ground.phase }, { on := 8, ground := Go.Ground.phase }, { on := 9, ground := Go.Ground.phase }, { on := 10, ground := Go.Ground.phase }], guard := none }) rfl (fun K hK => ?_) ?_
                                · refine st_store (by rfl) 27 (.tmp 15) (.tmp 101) (by rfl) gB (u8s r2).toArray e15_5 e101_5 27 _ HB5 HS2.out HZ2.out HU2.out ?_
                                  intro W6 q6 HB6
                                  have Q6 := qt_grown Q5 q6 bB
                                  have HA6 := blk_far HA5 q6 (fun e => ne (by rw [e]))
                                  refine hK _ _ ?_
                                  clear hK K
                                  refine gen_frame fun F6 hA => ?_
                                  have hF : F6 = F5.put none undef := hA
                                  have hF6 := Lib.hid hF
                                  have e96_6 : F6.eval (.tmp 96) = Value.slice (some ⟨LB, lo, none⟩) p c3 := by rw [hF, ev_none]; exact e96_5
                                  have e100_6 : F6.eval (.tmp 100) = Value.slice (some ⟨LB, lo + p * 32, none⟩) (nl - p) (c3 - p) := by rw [hF, ev_none]; exact e100_5
                                  have e15_6 : F6.eval (.tmp 15) = (.pointer (some ⟨gB, 0, none⟩)) := by rw [hF, ev_none]; exact e15_5
                                  have e97_6 : F6.eval (.tmp 97) = (.agg (u8s r1).toArray) := by rw [hF, ev_none]; exact e97_5
                                  have e101_6 : F6.eval (.tmp 101) = (.agg (u8s r2).toArray) := by rw [hF, ev_none]; exact e101_5
                                  have e14_6 : F6.eval (.tmp 14) = (.pointer (some ⟨gA, 0, none⟩)) := by rw [hF, ev_none]; exact e14_5
                                  have z6 : F6.tmps.size = 111 := by rw [hF, put_size]; exact z5
                                  clear hF hA
                                  refine wpAny_done (by kernel_rfl) ?_ _
                                  rw [hF6.out, hF5.out, hF4.out, hF3.out, hF2.out, hF1.out, hF0.out]
                                  go_wp2_with fail
                                  go_meet
                                  exact ⟨gA, gB, rfl, rfl, HQ1.out.trans Q6, HA6, HB6⟩
                                exact AllReady.nil
                              exact AllReady.nil
                            exact AllReady.nil
                          refine AllReady.cons (o := { dst := some 14, op := Go.Op.alloc 27, type := 0, pos := "outright.go:40", after := #[], guard := none }) rfl (fun K hK => ?_) ?_
                          · refine st_alloc (by rfl) 27 (by rfl) _ halloc ?_
                            intro gA W3 q3 lA HA3
                            have Q3 := Q2.trans q3
                            have bA : W0.heap.size ≤ gA := Nat.le_trans Q2.size lA
                            have HB3 := blk_qt HB2 q3
                            have ne : gB ≠ gA := Nat.ne_of_lt (Nat.lt_of_lt_of_le (blk_lt HB2) lA)
                            refine hK _ _ ?_
                            clear hK K
                            refine gen_frame fun F3 hA => ?_
                            have hF : F3 = F2.put (some 14) (.pointer (some ⟨gA, 0, none⟩)) := hA
                            have hF3 := Lib.hid hF
                            have e96_3 : F3.eval (.tmp 96) = Value.slice (some ⟨LB, lo, none⟩) p c3 := by rw [hF, ev_other (by decide)]; exact e96_2
                            have e100_3 : F3.eval (.tmp 100) = Value.slice (some ⟨LB, lo + p * 32, none⟩) (nl - p) (c3 - p) := by rw [hF, ev_other (by decide)]; exact e100_2
                            have e15_3 : F3.eval (.tmp 15) = (.pointer (some ⟨gB, 0, none⟩)) := by rw [hF, ev_other (by decide)]; exact e15_2
                            have e97_3 : F3.eval (.tmp 97) = (.agg (u8s r1).toArray) := by rw [hF, ev_other (by decide)]; exact e97_2
                            have e14_3 : F3.eval (.tmp 14) = (.pointer (some ⟨gA, 0, none⟩)) := by rw [hF]; exact ev_same (by rw [z2]; decide)
                            have z3 : F3.tmps.size = 111 := by rw [hF, put_size]; exact z2
                            clear hF hA
                            refine wpAny_ready (rs := [7]) (by kernel_rfl) (by simp) ?_
                            refine AllReady.cons (o := { dst := some 101, op := Go.Op.call { callee := Go.Callee.value (Go.Operand.func 14), args := #[Go.Operand.tmp 100], argTypes := #[32] }, type := 27, pos := "outright.go:40", after := #[{ on := 6, ground := Go.Ground.data }, { on := 3, ground := Go.Ground.chain }], guard := none }) rfl (fun K hK => ?_) ?_
                            · refine st_call1 (by rfl) 14 (.tmp 100) 32 (by rfl) (Value.slice (some ⟨LB, lo + p * 32, none⟩) (nl - p) (c3 - p)) e100_3 (hcf _) _ (Qt W3) (HC2.out _ (HQ1.out.trans Q3)) ?_
                              intro W4 q4
                              have Q4 := Q3.trans q4
                              have HA4 := blk_qt HA3 q4
                              have HB4 := blk_qt HB3 q4
                              refine hK _ _ ?_
                              clear hK K
                              refine gen_frame fun F4 hA => ?_
                              have hF : F4 = F3.put (some 101) (.agg (u8s r2).toArray) := hA
                              have hF4 := Lib.hid hF
                              have e96_4 : F4.eval (.tmp 96) = Value.slice (some ⟨LB, lo, none⟩) p c3 := by rw [hF, ev_other (by decide)]; exact e96_3
                              have e100_4 : F4.eval (.tmp 100) = Value.slice (some ⟨LB, lo + p * 32, none⟩) (nl - p) (c3 - p) := by rw [hF, ev_other (by decide)]; exact e100_3
                              have e15_4 : F4.eval (.tmp 15) = (.pointer (some ⟨gB, 0, none⟩)) := by rw [hF, ev_other (by decide)]; exact e15_3
                              have e97_4 : F4.eval (.tmp 97) = (.agg (u8s r1).toArray) := by rw [hF, ev_other (by decide)]; exact e97_3
                              have e14_4 : F4.eval (.tmp 14) = (.pointer (some ⟨gA, 0, none⟩)) := by rw [hF, ev_other (by decide)]; exact e14_3
                              have e101_4 : F4.eval (.tmp 101) = (.agg (u8s r2).toArray) := by rw [hF]; exact ev_same (by rw [z3]; decide)
                              have z4 : F4.tmps.size = 111 := by rw [hF, put_size]; exact z3
                              clear hF hA
                              refine wpAny_ready (rs := [10]) (by kernel_rfl) (by simp) ?_
                              refine AllReady.cons (o := { dst := none, op := Go.Op.store 27 (Go.Operand.tmp 14) (Go.Operand.tmp 97), type := 0, pos := "outright.go:40", after := #[{ on := 8, ground := Go.Ground.data }, { on := 3, ground := Go.Ground.data }, { on := 7, ground := Go.Ground.chain }, { on := 0, ground := Go.Ground.phase }, { on := 1, ground := Go.Ground.phase }, { on := 2, ground := Go.Ground.phase }, { on := 3, ground := Go.Ground.phase }, { on := 4, ground := Go.Ground.textOnly Go.Departure.lateStores }, { on := 5, ground := Go.Ground.textOnly Go.Departure.lateStores }, { on := 6, ground := Go.Ground.textOnly Go.Departure.lateStoresUnsure }, { on := 7, ground := Go.Ground.phase }, { on := 8, ground := Go.Ground.phase }, { on := 9, ground := Go.Ground.phase }], guard := none }) rfl (fun K hK => ?_) ?_
                              · refine st_store (by rfl) 27 (.tmp 14) (.tmp 97) (by rfl) gA (u8s r1).toArray e14_4 e97_4 27 _ HA4 HS1.out HZ1.out HU1.out ?_
                                intro W5 q5 HA5
                                have Q5 := qt_grown Q4 q5 bA
                                have HB5 := blk_far HB4 q5 (fun e => ne (by rw [e]))
                                refine hK _ _ ?_
                                clear hK K
                                refine gen_frame fun F5 hA => ?_
                                have hF : F5 = F4.put none undef := hA
                                have hF5 := Lib.hid hF
                                have e96_5 : F5.eval (.tmp 96) = Value.slice (some ⟨LB, lo, none⟩) p c3 := by rw [hF, ev_none]; exact e96_4
                                have e100_5 : F5.eval (.tmp 100) = Value.slice (some ⟨LB, lo + p * 32, none⟩) (nl - p) (c3 - p) := by rw [hF, ev_none]; exact e100_4
                                have e15_5 : F5.eval (.tmp 15) = (.pointer (some ⟨gB, 0, none⟩)) := by rw [hF, ev_none]; exact e15_4
                                have e97_5 : F5.eval (.tmp 97) = (.agg (u8s r1).toArray) := by rw [hF, ev_none]; exact e97_4
                                have e14_5 : F5.eval (.tmp 14) = (.pointer (some ⟨gA, 0, none⟩)) := by rw [hF, ev_none]; exact e14_4
                                have e101_5 : F5.eval (.tmp 101) = (.agg (u8s r2).toArray) := by rw [hF, ev_none]; exact e101_4
                                have z5 : F5.tmps.size = 111 := by rw [hF, put_size]; exact z4
                                clear hF hA
                                refine wpAny_ready (rs := [11]) (by kernel_rfl) (by simp) ?_
                                refine AllReady.cons (o := { dst := none, op := Go.Op.store 27 (Go.Operand.tmp 15) (Go.Operand.tmp 101), type := 0, pos := "outright.go:40", after := #[{ on := 9, ground := Go.Ground.data }, { on := 7, ground := Go.Ground.data }, { on := 10, ground := Go.Ground.chain }, { on := 0, ground := Go.Ground.phase }, { on := 1, ground := Go.Ground.phase }, { on := 2, ground := Go.Ground.phase }, { on := 3, ground := Go.Ground.phase }, { on := 4, ground := Go.Ground.phase }, { on := 5, ground := Go.Ground.phase }, { on := 6, ground := Go.Ground.phase }, { on := 7, ground := Go.Ground.phase }, { on := 8, ground := Go.Ground.phase }, { on := 9, ground := Go.Ground.phase }, { on := 10, ground := Go.Ground.phase }], guard := none }) rfl (fun K hK => ?_) ?_
                                · refine st_store (by rfl) 27 (.tmp 15) (.tmp 101) (by rfl) gB (u8s r2).toArray e15_5 e101_5 27 _ HB5 HS2.out HZ2.out HU2.out ?_
                                  intro W6 q6 HB6
                                  have Q6 := qt_grown Q5 q6 bB
                                  have HA6 := blk_far HA5 q6 (fun e => ne (by rw [e]))
                                  refine hK _ _ ?_
                                  clear hK K
                                  refine gen_frame fun F6 hA => ?_
                                  have hF : F6 = F5.put none undef := hA
                                  have hF6 := Lib.hid hF
                                  have e96_6 : F6.eval (.tmp 96) = Value.slice (some ⟨LB, lo, none⟩) p c3 := by rw [hF, ev_none]; exact e96_5
                                  have e100_6 : F6.eval (.tmp 100) = Value.slice (some ⟨LB, lo + p * 32, none⟩) (nl - p) (c3 - p) := by rw [hF, ev_none]; exact e100_5
                                  have e15_6 : F6.eval (.tmp 15) = (.pointer (some ⟨gB, 0, none⟩)) := by rw [hF, ev_none]; exact e15_5
                                  have e97_6 : F6.eval (.tmp 97) = (.agg (u8s r1).toArray) := by rw [hF, ev_none]; exact e97_5
                                  have e14_6 : F6.eval (.tmp 14) = (.pointer (some ⟨gA, 0, none⟩)) := by rw [hF, ev_none]; exact e14_5
                                  have e101_6 : F6.eval (.tmp 101) = (.agg (u8s r2).toArray) := by rw [hF, ev_none]; exact e101_5
                                  have z6 : F6.tmps.size = 111 := by rw [hF, put_size]; exact z5
                                  clear hF hA
                                  refine wpAny_done (by kernel_rfl) ?_ _
                                  rw [hF6.out, hF5.out, hF4.out, hF3.out, hF2.out, hF1.out, hF0.out]
                                  go_wp2_with fail
                                  go_meet
                                  exact ⟨gA, gB, rfl, rfl, HQ1.out.trans Q6, HA6, HB6⟩
                                exact AllReady.nil
                              exact AllReady.nil
                            exact AllReady.nil
                          exact AllReady.nil
                        refine AllReady.cons (o := { dst := some 14, op := Go.Op.alloc 27, type := 0, pos := "outright.go:40", after := #[], guard := none }) rfl (fun K hK => ?_) ?_
                        · refine st_alloc (by rfl) 27 (by rfl) _ halloc ?_
                          intro gA W2 q2 lA HA2
                          have Q2 := Q1.trans q2
                          have bA : W0.heap.size ≤ gA := Nat.le_trans Q1.size lA
                          have HB2 := blk_qt HB1 q2
                          have ne : gB ≠ gA := Nat.ne_of_lt (Nat.lt_of_lt_of_le (blk_lt HB1) lA)
                          refine hK _ _ ?_
                          clear hK K
                          refine gen_frame fun F2 hA => ?_
                          have hF : F2 = F1.put (some 14) (.pointer (some ⟨gA, 0, none⟩)) := hA
                          have hF2 := Lib.hid hF
                          have e96_2 : F2.eval (.tmp 96) = Value.slice (some ⟨LB, lo, none⟩) p c3 := by rw [hF, ev_other (by decide)]; exact e96_1
                          have e100_2 : F2.eval (.tmp 100) = Value.slice (some ⟨LB, lo + p * 32, none⟩) (nl - p) (c3 - p) := by rw [hF, ev_other (by decide)]; exact e100_1
                          have e15_2 : F2.eval (.tmp 15) = (.pointer (some ⟨gB, 0, none⟩)) := by rw [hF, ev_other (by decide)]; exact e15_1
                          have e14_2 : F2.eval (.tmp 14) = (.pointer (some ⟨gA, 0, none⟩)) := by rw [hF]; exact ev_same (by rw [z1]; decide)
                          have z2 : F2.tmps.size = 111 := by rw [hF, put_size]; exact z1
                          clear hF hA
                          refine wpAny_ready (rs := [3]) (by kernel_rfl) (by simp) ?_
                          refine AllReady.cons (o := { dst := some 97, op := Go.Op.call { callee := Go.Callee.value (Go.Operand.func 14), args := #[Go.Operand.tmp 96], argTypes := #[32] }, type := 27, pos := "outright.go:40", after := #[{ on := 2, ground := Go.Ground.data }], guard := none }) rfl (fun K hK => ?_) ?_
                          · refine st_call1 (by rfl) 14 (.tmp 96) 32 (by rfl) (Value.slice (some ⟨LB, lo, none⟩) p c3) e96_2 (hcf _) _ (Qt W2) (HC1.out _ (HQ1.out.trans Q2)) ?_
                            intro W3 q3
                            have Q3 := Q2.trans q3
                            have HA3 := blk_qt HA2 q3
                            have HB3 := blk_qt HB2 q3
                            refine hK _ _ ?_
                            clear hK K
                            refine gen_frame fun F3 hA => ?_
                            have hF : F3 = F2.put (some 97) (.agg (u8s r1).toArray) := hA
                            have hF3 := Lib.hid hF
                            have e96_3 : F3.eval (.tmp 96) = Value.slice (some ⟨LB, lo, none⟩) p c3 := by rw [hF, ev_other (by decide)]; exact e96_2
                            have e100_3 : F3.eval (.tmp 100) = Value.slice (some ⟨LB, lo + p * 32, none⟩) (nl - p) (c3 - p) := by rw [hF, ev_other (by decide)]; exact e100_2
                            have e15_3 : F3.eval (.tmp 15) = (.pointer (some ⟨gB, 0, none⟩)) := by rw [hF, ev_other (by decide)]; exact e15_2
                            have e14_3 : F3.eval (.tmp 14) = (.pointer (some ⟨gA, 0, none⟩)) := by rw [hF, ev_other (by decide)]; exact e14_2
                            have e97_3 : F3.eval (.tmp 97) = (.agg (u8s r1).toArray) := by rw [hF]; exact ev_same (by rw [z2]; decide)
                            have z3 : F3.tmps.size = 111 := by rw [hF, put_size]; exact z2
                            clear hF hA
                            refine wpAny_ready (rs := [7]) (by kernel_rfl) (by simp) ?_
                            refine AllReady.cons (o := { dst := some 101, op := Go.Op.call { callee := Go.Callee.value (Go.Operand.func 14), args := #[Go.Operand.tmp 100], argTypes := #[32] }, type := 27, pos := "outright.go:40", after := #[{ on := 6, ground := Go.Ground.data }, { on := 3, ground := Go.Ground.chain }], guard := none }) rfl (fun K hK => ?_) ?_
                            · refine st_call1 (by rfl) 14 (.tmp 100) 32 (by rfl) (Value.slice (some ⟨LB, lo + p * 32, none⟩) (nl - p) (c3 - p)) e100_3 (hcf _) _ (Qt W3) (HC2.out _ (HQ1.out.trans Q3)) ?_
                              intro W4 q4
                              have Q4 := Q3.trans q4
                              have HA4 := blk_qt HA3 q4
                              have HB4 := blk_qt HB3 q4
                              refine hK _ _ ?_
                              clear hK K
                              refine gen_frame fun F4 hA => ?_
                              have hF : F4 = F3.put (some 101) (.agg (u8s r2).toArray) := hA
                              have hF4 := Lib.hid hF
                              have e96_4 : F4.eval (.tmp 96) = Value.slice (some ⟨LB, lo, none⟩) p c3 := by rw [hF, ev_other (by decide)]; exact e96_3
                              have e100_4 : F4.eval (.tmp 100) = Value.slice (some ⟨LB, lo + p * 32, none⟩) (nl - p) (c3 - p) := by rw [hF, ev_other (by decide)]; exact e100_3
                              have e15_4 : F4.eval (.tmp 15) = (.pointer (some ⟨gB, 0, none⟩)) := by rw [hF, ev_other (by decide)]; exact e15_3
                              have e14_4 : F4.eval (.tmp 14) = (.pointer (some ⟨gA, 0, none⟩)) := by rw [hF, ev_other (by decide)]; exact e14_3
                              have e97_4 : F4.eval (.tmp 97) = (.agg (u8s r1).toArray) := by rw [hF, ev_other (by decide)]; exact e97_3
                              have e101_4 : F4.eval (.tmp 101) = (.agg (u8s r2).toArray) := by rw [hF]; exact ev_same (by rw [z3]; decide)
                              have z4 : F4.tmps.size = 111 := by rw [hF, put_size]; exact z3
                              clear hF hA
                              refine wpAny_ready (rs := [10]) (by kernel_rfl) (by simp) ?_
                              refine AllReady.cons (o := { dst := none, op := Go.Op.store 27 (Go.Operand.tmp 14) (Go.Operand.tmp 97), type := 0, pos := "outright.go:40", after := #[{ on := 8, ground := Go.Ground.data }, { on := 3, ground := Go.Ground.data }, { on := 7, ground := Go.Ground.chain }, { on := 0, ground := Go.Ground.phase }, { on := 1, ground := Go.Ground.phase }, { on := 2, ground := Go.Ground.phase }, { on := 3, ground := Go.Ground.phase }, { on := 4, ground := Go.Ground.textOnly Go.Departure.lateStores }, { on := 5, ground := Go.Ground.textOnly Go.Departure.lateStores }, { on := 6, ground := Go.Ground.textOnly Go.Departure.lateStoresUnsure }, { on := 7, ground := Go.Ground.phase }, { on := 8, ground := Go.Ground.phase }, { on := 9, ground := Go.Ground.phase }], guard := none }) rfl (fun K hK => ?_) ?_
                              · refine st_store (by rfl) 27 (.tmp 14) (.tmp 97) (by rfl) gA (u8s r1).toArray e14_4 e97_4 27 _ HA4 HS1.out HZ1.out HU1.out ?_
                                intro W5 q5 HA5
                                have Q5 := qt_grown Q4 q5 bA
                                have HB5 := blk_far HB4 q5 (fun e => ne (by rw [e]))
                                refine hK _ _ ?_
                                clear hK K
                                refine gen_frame fun F5 hA => ?_
                                have hF : F5 = F4.put none undef := hA
                                have hF5 := Lib.hid hF
                                have e96_5 : F5.eval (.tmp 96) = Value.slice (some ⟨LB, lo, none⟩) p c3 := by rw [hF, ev_none]; exact e96_4
                                have e100_5 : F5.eval (.tmp 100) = Value.slice (some ⟨LB, lo + p * 32, none⟩) (nl - p) (c3 - p) := by rw [hF, ev_none]; exact e100_4
                                have e15_5 : F5.eval (.tmp 15) = (.pointer (some ⟨gB, 0, none⟩)) := by rw [hF, ev_none]; exact e15_4
                                have e14_5 : F5.eval (.tmp 14) = (.pointer (some ⟨gA, 0, none⟩)) := by rw [hF, ev_none]; exact e14_4
                                have e97_5 : F5.eval (.tmp 97) = (.agg (u8s r1).toArray) := by rw [hF, ev_none]; exact e97_4
                                have e101_5 : F5.eval (.tmp 101) = (.agg (u8s r2).toArray) := by rw [hF, ev_none]; exact e101_4
                                have z5 : F5.tmps.size = 111 := by rw [hF, put_size]; exact z4
                                clear hF hA
                                refine wpAny_ready (rs := [11]) (by kernel_rfl) (by simp) ?_
                                refine AllReady.cons (o := { dst := none, op := Go.Op.store 27 (Go.Operand.tmp 15) (Go.Operand.tmp 101), type := 0, pos := "outright.go:40", after := #[{ on := 9, ground := Go.Ground.data }, { on := 7, ground := Go.Ground.data }, { on := 10, ground := Go.Ground.chain }, { on := 0, ground := Go.Ground.phase }, { on := 1, ground := Go.Ground.phase }, { on := 2, ground := Go.Ground.phase }, { on := 3, ground := Go.Ground.phase }, { on := 4, ground := Go.Ground.phase }, { on := 5, ground := Go.Ground.phase }, { on := 6, ground := Go.Ground.phase }, { on := 7, ground := Go.Ground.phase }, { on := 8, ground := Go.Ground.phase }, { on := 9, ground := Go.Ground.phase }, { on := 10, ground := Go.Ground.phase }], guard := none }) rfl (fun K hK => ?_) ?_
                                · refine st_store (by rfl) 27 (.tmp 15) (.tmp 101) (by rfl) gB (u8s r2).toArray e15_5 e101_5 27 _ HB5 HS2.out HZ2.out HU2.out ?_
                                  intro W6 q6 HB6
                                  have Q6 := qt_grown Q5 q6 bB
                                  have HA6 := blk_far HA5 q6 (fun e => ne (by rw [e]))
                                  refine hK _ _ ?_
                                  clear hK K
                                  refine gen_frame fun F6 hA => ?_
                                  have hF : F6 = F5.put none undef := hA
                                  have hF6 := Lib.hid hF
                                  have e96_6 : F6.eval (.tmp 96) = Value.slice (some ⟨LB, lo, none⟩) p c3 := by rw [hF, ev_none]; exact e96_5
                                  have e100_6 : F6.eval (.tmp 100) = Value.slice (some ⟨LB, lo + p * 32, none⟩) (nl - p) (c3 - p) := by rw [hF, ev_none]; exact e100_5
                                  have e15_6 : F6.eval (.tmp 15) = (.pointer (some ⟨gB, 0, none⟩)) := by rw [hF, ev_none]; exact e15_5
                                  have e14_6 : F6.eval (.tmp 14) = (.pointer (some ⟨gA, 0, none⟩)) := by rw [hF, ev_none]; exact e14_5
                                  have e97_6 : F6.eval (.tmp 97) = (.agg (u8s r1).toArray) := by rw [hF, ev_none]; exact e97_5
                                  have e101_6 : F6.eval (.tmp 101) = (.agg (u8s r2).toArray) := by rw [hF, ev_none]; exact e101_5
                                  have z6 : F6.tmps.size = 111 := by rw [hF, put_size]; exact z5
                                  clear hF hA
                                  refine wpAny_done (by kernel_rfl) ?_ _
                                  rw [hF6.out, hF5.out, hF4.out, hF3.out, hF2.out, hF1.out, hF0.out]
                                  go_wp2_with fail
                                  go_meet
                                  exact ⟨gA, gB, rfl, rfl, HQ1.out.trans Q6, HA6, HB6⟩
                                exact AllReady.nil
                              exact AllReady.nil
                            exact AllReady.nil
                          exact AllReady.nil
                        exact AllReady.nil
                      exact AllReady.nil
                    case rest =>
                      obtain ⟨gA, gB, rfl, rfl, hq2, hA, hB⟩ := hcut
                      have HQ2 := Lib.hid hq2
                      have HA9 := Lib.hid hA
                      have HB9 := Lib.hid hB
                      have hcof : ∀ W g3 g2, W.heap[g2]? = some (.cells #[.int .u8 2] 5 (0, 0)) → W.heap[g3]? = some (.cells #[.slice (some ⟨g2, 0, none⟩) 1 1, .slice (some ⟨gA, 0, none⟩) 32 32, .slice (some ⟨gB, 0, none⟩) 32 32] 38 (0, 0)) → W.heap[gA]? = some (.cells (u8s r1).toArray 27 (0, 0)) → W.heap[gB]? = some (.cells (u8s r2).toArray 27 (0, 0)) →
                          Calls Try.prog 10 #[.slice (some ⟨g3, 0, none⟩) 3 3] W fun e w' => e = .returned (.agg (u8s S).toArray) ∧ Qt W w' := fun W g3 g2 h2 h3 hA hB => by
                        refine (of_any [[2], r1, r2] _ _ (parts3_blk h3 (rd_blkN (cs := u8s [2]) h2) (rd_blk hA HL1.out) (rd_blk hB HL2.out) (by decide) HT1.out HT2.out) (by simp) (by simp [HL1.out, HL2.out])).mono ?_
                        rintro e w' ⟨rfl, q⟩
                        exact ⟨by rw [HROOT.out]; simp, q⟩
                      have HCOF := Lib.hid hcof
                      clear hcof hq2 hA hB HC1 HC2 HS1 HS2 HZ1 HZ2 HU1 HU2
                      go_wp2_with fail
                      refine wp_region_any (by kernel_rfl) ?_
                      change wpAny _ _ _ _ _ _ _ (World.drew _)
                      refine wpAny_take (i := 0) (oi := { dst := some 102, op := Go.Op.move (Go.Operand.tmp 2), type := 32, pos := "outright.go:41", after := #[], guard := none }) (v := Value.slice (some ⟨LB, lo, none⟩) nl c3) rfl (by kernel_rfl) (by kernel_rfl) (by kernel_rfl) (fun _ _ _ h => h) (Or.inl ⟨by rfl, fun w => by go_simp⟩) ?_
                      refine wpAny_take (i := 3) (oi := { dst := some 105, op := Go.Op.slice 27 (Go.Operand.tmp 14) none none none, type := 38, pos := "outright.go:41", after := #[], guard := none }) (v := Value.slice (some ⟨gA, 0, none⟩) 32 32) rfl (by kernel_rfl) (by kernel_rfl) (by kernel_rfl) (fun _ _ _ h => h) (Or.inl ⟨by rfl, fun w => by go_simp⟩) ?_
                      refine wpAny_take (i := 4) (oi := { dst := some 106, op := Go.Op.slice 27 (Go.Operand.tmp 15) none none none, type := 38, pos := "outright.go:41", after := #[], guard := none }) (v := Value.slice (some ⟨gB, 0, none⟩) 32 32) rfl (by kernel_rfl) (by kernel_rfl) (by kernel_rfl) (fun _ _ _ h => h) (Or.inl ⟨by rfl, fun w => by go_simp⟩) ?_
                      refine gen_frame fun F0 hA => ?_
                      have e102_0 : F0.eval (.tmp 102) = Value.slice (some ⟨LB, lo, none⟩) nl c3 := by rw [hA]; simp [Act.put, Act.eval]
                      have e105_0 : F0.eval (.tmp 105) = Value.slice (some ⟨gA, 0, none⟩) 32 32 := by rw [hA]; simp [Act.put, Act.eval]
                      have e106_0 : F0.eval (.tmp 106) = Value.slice (some ⟨gB, 0, none⟩) 32 32 := by rw [hA]; simp [Act.put, Act.eval]
                      have z0 : F0.tmps.size = 111 := by rw [hA]; simp [Act.put]
                      have hF0 := Lib.hid hA
                      clear hA
                      generalize hW : World.drew _ = W0
                      have HQ1 := Lib.hid (show Qt w W0 from by rw [← hW]; exact HQ2.out.drew)
                      have HA0 : W0.heap[gA]? = some (.cells (u8s r1).toArray 27 (0, 0)) := by rw [← hW]; exact HA9.out
                      have HB0 : W0.heap[gB]? = some (.cells (u8s r2).toArray 27 (0, 0)) := by rw [← hW]; exact HB9.out
                      have Q0 := Qt.refl W0
                      clear hW
                      refine wpAny_ready (rs := [1, 2]) (by kernel_rfl) (by simp) ?_
                      refine AllReady.cons (o := { dst := some 103, op := Go.Op.call { callee := Go.Callee.value (Go.Operand.func 14), args := #[Go.Operand.tmp 102], argTypes := #[32] }, type := 27, pos := "outright.go:41", after := #[{ on := 0, ground := Go.Ground.data }], guard := none }) rfl (fun K hK => ?_) ?_
                      · refine st_call1 (by rfl) 14 (.tmp 102) 32 (by rfl) (Value.slice (some ⟨LB, lo, none⟩) nl c3) e102_0 (hcf _) (.agg (u8s S).toArray) (Qt W0) (HCL.out _ (HQ1.out.trans Q0)) ?_
                        intro W1 q1
                        have Q1 := Q0.trans q1
                        have HA1 := blk_qt HA0 q1
                        have HB1 := blk_qt HB0 q1
                        refine hK _ _ ?_
                        clear hK K
                        refine gen_frame fun F1 hA => ?_
                        have hF : F1 = F0.put (some 103) (.agg (u8s S).toArray) := hA
                        have hF1 := Lib.hid hF
                        have e102_1 : F1.eval (.tmp 102) = Value.slice (some ⟨LB, lo, none⟩) nl c3 := by rw [hF, ev_other (by decide)]; exact e102_0
                        have e105_1 : F1.eval (.tmp 105) = Value.slice (some ⟨gA, 0, none⟩) 32 32 := by rw [hF, ev_other (by decide)]; exact e105_0
                        have e106_1 : F1.eval (.tmp 106) = Value.slice (some ⟨gB, 0, none⟩) 32 32 := by rw [hF, ev_other (by decide)]; exact e106_0
                        have e103_1 : F1.eval (.tmp 103) = (.agg (u8s S).toArray) := by rw [hF]; exact ev_same (by rw [z0]; decide)
                        have z1 : F1.tmps.size = 111 := by rw [hF, put_size]; exact z0
                        clear hF hA
                        refine wpAny_ready (rs := [2]) (by kernel_rfl) (by simp) ?_
                        refine AllReady.cons (o := { dst := some 104, op := Go.Op.buildSlice 38 1 #[(0, Go.Operand.const (Go.Value.int Go.IntKind.u8 2))], type := 38, pos := "outright.go:41", after := #[], guard := none }) rfl (fun K hK => ?_) ?_
                        · refine st_mk (by rfl) 1 #[.int .u8 2] 5 (by go_simp) ?_
                          intro g2 W2 q2 l2 H22
                          have Q2 := Q1.trans q2
                          have HA2 := blk_qt HA1 q2
                          have HB2 := blk_qt HB1 q2
                          refine hK _ _ ?_
                          clear hK K
                          refine gen_frame fun F2 hA => ?_
                          have hF : F2 = F1.put (some 104) (.slice (some ⟨g2, 0, none⟩) 1 1) := hA
                          have hF2 := Lib.hid hF
                          have e102_2 : F2.eval (.tmp 102) = Value.slice (some ⟨LB, lo, none⟩) nl c3 := by rw [hF, ev_other (by decide)]; exact e102_1
                          have e105_2 : F2.eval (.tmp 105) = Value.slice (some ⟨gA, 0, none⟩) 32 32 := by rw [hF, ev_other (by decide)]; exact e105_1
                          have e106_2 : F2.eval (.tmp 106) = Value.slice (some ⟨gB, 0, none⟩) 32 32 := by rw [hF, ev_other (by decide)]; exact e106_1
                          have e103_2 : F2.eval (.tmp 103) = (.agg (u8s S).toArray) := by rw [hF, ev_other (by decide)]; exact e103_1
                          have e104_2 : F2.eval (.tmp 104) = (.slice (some ⟨g2, 0, none⟩) 1 1) := by rw [hF]; exact ev_same (by rw [z1]; decide)
                          have z2 : F2.tmps.size = 111 := by rw [hF, put_size]; exact z1
                          clear hF hA
                          refine wpAny_ready (rs := [5]) (by kernel_rfl) (by simp) ?_
                          refine AllReady.cons (o := { dst := some 107, op := Go.Op.buildSlice 22 3 #[(0, Go.Operand.tmp 104), (1, Go.Operand.tmp 105), (2, Go.Operand.tmp 106)], type := 22, pos := "outright.go:41", after := #[{ on := 2, ground := Go.Ground.data }, { on := 3, ground := Go.Ground.data }, { on := 4, ground := Go.Ground.data }], guard := none }) rfl (fun K hK => ?_) ?_
                          · refine st_mk (by rfl) 3 #[.slice (some ⟨g2, 0, none⟩) 1 1, .slice (some ⟨gA, 0, none⟩) 32 32, .slice (some ⟨gB, 0, none⟩) 32 32] 38 (by rw [run_bs (by rfl) (vals := #[(0, .slice (some ⟨g2, 0, none⟩) 1 1), (1, .slice (some ⟨gA, 0, none⟩) 32 32), (2, .slice (some ⟨gB, 0, none⟩) 32 32)]) (by simp [e104_2, e105_2, e106_2])]; go_simp) ?_
                            intro g3 W3 q3 l3 H33
                            have Q3 := Q2.trans q3
                            have HA3 := blk_qt HA2 q3
                            have HB3 := blk_qt HB2 q3
                            have H23 := blk_qt H22 q3
                            refine hK _ _ ?_
                            clear hK K
                            refine gen_frame fun F3 hA => ?_
                            have hF : F3 = F2.put (some 107) (.slice (some ⟨g3, 0, none⟩) 3 3) := hA
                            have hF3 := Lib.hid hF
                            have e102_3 : F3.eval (.tmp 102) = Value.slice (some ⟨LB, lo, none⟩) nl c3 := by rw [hF, ev_other (by decide)]; exact e102_2
                            have e105_3 : F3.eval (.tmp 105) = Value.slice (some ⟨gA, 0, none⟩) 32 32 := by rw [hF, ev_other (by decide)]; exact e105_2
                            have e106_3 : F3.eval (.tmp 106) = Value.slice (some ⟨gB, 0, none⟩) 32 32 := by rw [hF, ev_other (by decide)]; exact e106_2
                            have e103_3 : F3.eval (.tmp 103) = (.agg (u8s S).toArray) := by rw [hF, ev_other (by decide)]; exact e103_2
                            have e104_3 : F3.eval (.tmp 104) = (.slice (some ⟨g2, 0, none⟩) 1 1) := by rw [hF, ev_other (by decide)]; exact e104_2
                            have e107_3 : F3.eval (.tmp 107) = (.slice (some ⟨g3, 0, none⟩) 3 3) := by rw [hF]; exact ev_same (by rw [z2]; decide)
                            have z3 : F3.tmps.size = 111 := by rw [hF, put_size]; exact z2
                            clear hF hA
                            refine wpAny_ready (rs := [6]) (by kernel_rfl) (by simp) ?_
                            refine AllReady.cons (o := { dst := some 108, op := Go.Op.call { callee := Go.Callee.value (Go.Operand.func 10), args := #[Go.Operand.tmp 107], argTypes := #[22] }, type := 27, pos := "outright.go:41", after := #[{ on := 5, ground := Go.Ground.data }, { on := 1, ground := Go.Ground.chain }], guard := none }) rfl (fun K hK => ?_) ?_
                            · refine st_call1 (by rfl) 10 (.tmp 107) 22 (by rfl) (.slice (some ⟨g3, 0, none⟩) 3 3) e107_3 (hcf2 _) (.agg (u8s S).toArray) (Qt W3) (HCOF.out _ _ _ H23 H33 HA3 HB3) ?_
                              intro W4 q4
                              have Q4 := Q3.trans q4
                              have HA4 := blk_qt HA3 q4
                              have HB4 := blk_qt HB3 q4
                              have H24 := blk_qt H23 q4
                              have H34 := blk_qt H33 q4
                              refine hK _ _ ?_
                              clear hK K
                              refine gen_frame fun F4 hA => ?_
                              have hF : F4 = F3.put (some 108) (.agg (u8s S).toArray) := hA
                              have hF4 := Lib.hid hF
                              have e102_4 : F4.eval (.tmp 102) = Value.slice (some ⟨LB, lo, none⟩) nl c3 := by rw [hF, ev_other (by decide)]; exact e102_3
                              have e105_4 : F4.eval (.tmp 105) = Value.slice (some ⟨gA, 0, none⟩) 32 32 := by rw [hF, ev_other (by decide)]; exact e105_3
                              have e106_4 : F4.eval (.tmp 106) = Value.slice (some ⟨gB, 0, none⟩) 32 32 := by rw [hF, ev_other (by decide)]; exact e106_3
                              have e103_4 : F4.eval (.tmp 103) = (.agg (u8s S).toArray) := by rw [hF, ev_other (by decide)]; exact e103_3
                              have e104_4 : F4.eval (.tmp 104) = (.slice (some ⟨g2, 0, none⟩) 1 1) := by rw [hF, ev_other (by decide)]; exact e104_3
                              have e107_4 : F4.eval (.tmp 107) = (.slice (some ⟨g3, 0, none⟩) 3 3) := by rw [hF, ev_other (by decide)]; exact e107_3
                              have e108_4 : F4.eval (.tmp 108) = (.agg (u8s S).toArray) := by rw [hF]; exact ev_same (by rw [z3]; decide)
                              have z4 : F4.tmps.size = 111 := by rw [hF, put_size]; exact z3
                              clear hF hA
                              refine wpAny_ready (rs := [7]) (by kernel_rfl) (by simp) ?_
                              refine AllReady.cons (o := { dst := some 109, op := Go.Op.binOp Go.BinOp.eql 27 (Go.Operand.tmp 103) (Go.Operand.tmp 108) 27, type := 4, pos := "outright.go:41", after := #[{ on := 1, ground := Go.Ground.data }, { on := 6, ground := Go.Ground.data }], guard := none }) rfl (fun K hK => ?_) ?_
                              · refine st_run (by rfl) (.bool true) W4 (by simp only [execOp, e103_4, e108_4]; go_simp) ?_
                                obtain ⟨W5, hw5⟩ : ∃ W', W' = W4 := ⟨_, rfl⟩
                                rw [← hw5]
                                have Q5 := Q4
                                rw [← hw5] at Q5
                                clear hw5
                                refine hK _ _ ?_
                                clear hK K
                                refine gen_frame fun F5 hA => ?_
                                have hF : F5 = F4.put (some 109) (.bool true) := hA
                                have hF5 := Lib.hid hF
                                have e102_5 : F5.eval (.tmp 102) = Value.slice (some ⟨LB, lo, none⟩) nl c3 := by rw [hF, ev_other (by decide)]; exact e102_4
                                have e105_5 : F5.eval (.tmp 105) = Value.slice (some ⟨gA, 0, none⟩) 32 32 := by rw [hF, ev_other (by decide)]; exact e105_4
                                have e106_5 : F5.eval (.tmp 106) = Value.slice (some ⟨gB, 0, none⟩) 32 32 := by rw [hF, ev_other (by decide)]; exact e106_4
                                have e103_5 : F5.eval (.tmp 103) = (.agg (u8s S).toArray) := by rw [hF, ev_other (by decide)]; exact e103_4
                                have e104_5 : F5.eval (.tmp 104) = (.slice (some ⟨g2, 0, none⟩) 1 1) := by rw [hF, ev_other (by decide)]; exact e104_4
                                have e107_5 : F5.eval (.tmp 107) = (.slice (some ⟨g3, 0, none⟩) 3 3) := by rw [hF, ev_other (by decide)]; exact e107_4
                                have e108_5 : F5.eval (.tmp 108) = (.agg (u8s S).toArray) := by rw [hF, ev_other (by decide)]; exact e108_4
                                have e109_5 : F5.eval (.tmp 109) = (.bool true) := by rw [hF]; exact ev_same (by rw [z4]; decide)
                                have z5 : F5.tmps.size = 111 := by rw [hF, put_size]; exact z4
                                clear hF hA
                                refine wpAny_ready (rs := [8]) (by kernel_rfl) (by simp) ?_
                                refine AllReady.cons (o := { dst := some 12, op := Go.Op.assign (Go.Operand.tmp 109), type := 4, pos := "outright.go:41", after := #[{ on := 7, ground := Go.Ground.data }, { on := 6, ground := Go.Ground.chain }, { on := 0, ground := Go.Ground.phase }, { on := 1, ground := Go.Ground.phase }, { on := 2, ground := Go.Ground.phase }, { on := 3, ground := Go.Ground.phase }, { on := 4, ground := Go.Ground.phase }, { on := 5, ground := Go.Ground.phase }, { on := 6, ground := Go.Ground.phase }, { on := 7, ground := Go.Ground.phase }], guard := none }) rfl (fun K hK => ?_) ?_
                                · refine st_run (by rfl) (.bool true) W5 (run_as rfl e109_5 _) ?_
                                  obtain ⟨W6, hw6⟩ : ∃ W', W' = W5 := ⟨_, rfl⟩
                                  rw [← hw6]
                                  have Q6 := Q5
                                  rw [← hw6] at Q6
                                  clear hw6
                                  refine hK _ _ ?_
                                  clear hK K
                                  refine gen_frame fun F6 hA => ?_
                                  have hF : F6 = F5.put (some 12) (.bool true) := hA
                                  have hF6 := Lib.hid hF
                                  have e102_6 : F6.eval (.tmp 102) = Value.slice (some ⟨LB, lo, none⟩) nl c3 := by rw [hF, ev_other (by decide)]; exact e102_5
                                  have e105_6 : F6.eval (.tmp 105) = Value.slice (some ⟨gA, 0, none⟩) 32 32 := by rw [hF, ev_other (by decide)]; exact e105_5
                                  have e106_6 : F6.eval (.tmp 106) = Value.slice (some ⟨gB, 0, none⟩) 32 32 := by rw [hF, ev_other (by decide)]; exact e106_5
                                  have e103_6 : F6.eval (.tmp 103) = (.agg (u8s S).toArray) := by rw [hF, ev_other (by decide)]; exact e103_5
                                  have e104_6 : F6.eval (.tmp 104) = (.slice (some ⟨g2, 0, none⟩) 1 1) := by rw [hF, ev_other (by decide)]; exact e104_5
                                  have e107_6 : F6.eval (.tmp 107) = (.slice (some ⟨g3, 0, none⟩) 3 3) := by rw [hF, ev_other (by decide)]; exact e107_5
                                  have e108_6 : F6.eval (.tmp 108) = (.agg (u8s S).toArray) := by rw [hF, ev_other (by decide)]; exact e108_5
                                  have e109_6 : F6.eval (.tmp 109) = (.bool true) := by rw [hF, ev_other (by decide)]; exact e109_5
                                  have e12_6 : F6.eval (.tmp 12) = (.bool true) := by rw [hF]; exact ev_same (by rw [z5]; decide)
                                  have z6 : F6.tmps.size = 111 := by rw [hF, put_size]; exact z5
                                  clear hF hA
                                  refine wpAny_done (by kernel_rfl) ?_ _
                                  rw [hF6.out, hF5.out, hF4.out, hF3.out, hF2.out, hF1.out, hF0.out]
                                  go_wp2_with fail
                                  go_roundg (gk - p)
                                  case measure => have := HGP.out; omega
                                  case rel => exact ⟨p * 2, j + 1, true, by have := HGP.out; omega, by rw [Nat.pow_succ, HPJ.out], by omega, by go_num, rfl, fun h => absurd h h2, fun _ => rfl, HQ1.out.trans Q6⟩
                                exact AllReady.nil
                              exact AllReady.nil
                            exact AllReady.nil
                          exact AllReady.nil
                        exact AllReady.nil
                      refine AllReady.cons (o := { dst := some 104, op := Go.Op.buildSlice 38 1 #[(0, Go.Operand.const (Go.Value.int Go.IntKind.u8 2))], type := 38, pos := "outright.go:41", after := #[], guard := none }) rfl (fun K hK => ?_) ?_
                      · refine st_mk (by rfl) 1 #[.int .u8 2] 5 (by go_simp) ?_
                        intro g2 W1 q1 l2 H21
                        have Q1 := Q0.trans q1
                        have HA1 := blk_qt HA0 q1
                        have HB1 := blk_qt HB0 q1
                        refine hK _ _ ?_
                        clear hK K
                        refine gen_frame fun F1 hA => ?_
                        have hF : F1 = F0.put (some 104) (.slice (some ⟨g2, 0, none⟩) 1 1) := hA
                        have hF1 := Lib.hid hF
                        have e102_1 : F1.eval (.tmp 102) = Value.slice (some ⟨LB, lo, none⟩) nl c3 := by rw [hF, ev_other (by decide)]; exact e102_0
                        have e105_1 : F1.eval (.tmp 105) = Value.slice (some ⟨gA, 0, none⟩) 32 32 := by rw [hF, ev_other (by decide)]; exact e105_0
                        have e106_1 : F1.eval (.tmp 106) = Value.slice (some ⟨gB, 0, none⟩) 32 32 := by rw [hF, ev_other (by decide)]; exact e106_0
                        have e104_1 : F1.eval (.tmp 104) = (.slice (some ⟨g2, 0, none⟩) 1 1) := by rw [hF]; exact ev_same (by rw [z0]; decide)
                        have z1 : F1.tmps.size = 111 := by rw [hF, put_size]; exact z0
                        clear hF hA
                        refine wpAny_ready (rs := [1, 5]) (by kernel_rfl) (by simp) ?_
                        refine AllReady.cons (o := { dst := some 103, op := Go.Op.call { callee := Go.Callee.value (Go.Operand.func 14), args := #[Go.Operand.tmp 102], argTypes := #[32] }, type := 27, pos := "outright.go:41", after := #[{ on := 0, ground := Go.Ground.data }], guard := none }) rfl (fun K hK => ?_) ?_
                        · refine st_call1 (by rfl) 14 (.tmp 102) 32 (by rfl) (Value.slice (some ⟨LB, lo, none⟩) nl c3) e102_1 (hcf _) (.agg (u8s S).toArray) (Qt W1) (HCL.out _ (HQ1.out.trans Q1)) ?_
                          intro W2 q2
                          have Q2 := Q1.trans q2
                          have HA2 := blk_qt HA1 q2
                          have HB2 := blk_qt HB1 q2
                          have H22 := blk_qt H21 q2
                          refine hK _ _ ?_
                          clear hK K
                          refine gen_frame fun F2 hA => ?_
                          have hF : F2 = F1.put (some 103) (.agg (u8s S).toArray) := hA
                          have hF2 := Lib.hid hF
                          have e102_2 : F2.eval (.tmp 102) = Value.slice (some ⟨LB, lo, none⟩) nl c3 := by rw [hF, ev_other (by decide)]; exact e102_1
                          have e105_2 : F2.eval (.tmp 105) = Value.slice (some ⟨gA, 0, none⟩) 32 32 := by rw [hF, ev_other (by decide)]; exact e105_1
                          have e106_2 : F2.eval (.tmp 106) = Value.slice (some ⟨gB, 0, none⟩) 32 32 := by rw [hF, ev_other (by decide)]; exact e106_1
                          have e104_2 : F2.eval (.tmp 104) = (.slice (some ⟨g2, 0, none⟩) 1 1) := by rw [hF, ev_other (by decide)]; exact e104_1
                          have e103_2 : F2.eval (.tmp 103) = (.agg (u8s S).toArray) := by rw [hF]; exact ev_same (by rw [z1]; decide)
                          have z2 : F2.tmps.size = 111 := by rw [hF, put_size]; exact z1
                          clear hF hA
                          refine wpAny_ready (rs := [5]) (by kernel_rfl) (by simp) ?_
                          refine AllReady.cons (o := { dst := some 107, op := Go.Op.buildSlice 22 3 #[(0, Go.Operand.tmp 104), (1, Go.Operand.tmp 105), (2, Go.Operand.tmp 106)], type := 22, pos := "outright.go:41", after := #[{ on := 2, ground := Go.Ground.data }, { on := 3, ground := Go.Ground.data }, { on := 4, ground := Go.Ground.data }], guard := none }) rfl (fun K hK => ?_) ?_
                          · refine st_mk (by rfl) 3 #[.slice (some ⟨g2, 0, none⟩) 1 1, .slice (some ⟨gA, 0, none⟩) 32 32, .slice (some ⟨gB, 0, none⟩) 32 32] 38 (by rw [run_bs (by rfl) (vals := #[(0, .slice (some ⟨g2, 0, none⟩) 1 1), (1, .slice (some ⟨gA, 0, none⟩) 32 32), (2, .slice (some ⟨gB, 0, none⟩) 32 32)]) (by simp [e104_2, e105_2, e106_2])]; go_simp) ?_
                            intro g3 W3 q3 l3 H33
                            have Q3 := Q2.trans q3
                            have HA3 := blk_qt HA2 q3
                            have HB3 := blk_qt HB2 q3
                            have H23 := blk_qt H22 q3
                            refine hK _ _ ?_
                            clear hK K
                            refine gen_frame fun F3 hA => ?_
                            have hF : F3 = F2.put (some 107) (.slice (some ⟨g3, 0, none⟩) 3 3) := hA
                            have hF3 := Lib.hid hF
                            have e102_3 : F3.eval (.tmp 102) = Value.slice (some ⟨LB, lo, none⟩) nl c3 := by rw [hF, ev_other (by decide)]; exact e102_2
                            have e105_3 : F3.eval (.tmp 105) = Value.slice (some ⟨gA, 0, none⟩) 32 32 := by rw [hF, ev_other (by decide)]; exact e105_2
                            have e106_3 : F3.eval (.tmp 106) = Value.slice (some ⟨gB, 0, none⟩) 32 32 := by rw [hF, ev_other (by decide)]; exact e106_2
                            have e104_3 : F3.eval (.tmp 104) = (.slice (some ⟨g2, 0, none⟩) 1 1) := by rw [hF, ev_other (by decide)]; exact e104_2
                            have e103_3 : F3.eval (.tmp 103) = (.agg (u8s S).toArray) := by rw [hF, ev_other (by decide)]; exact e103_2
                            have e107_3 : F3.eval (.tmp 107) = (.slice (some ⟨g3, 0, none⟩) 3 3) := by rw [hF]; exact ev_same (by rw [z2]; decide)
                            have z3 : F3.tmps.size = 111 := by rw [hF, put_size]; exact z2
                            clear hF hA
                            refine wpAny_ready (rs := [6]) (by kernel_rfl) (by simp) ?_
                            refine AllReady.cons (o := { dst := some 108, op := Go.Op.call { callee := Go.Callee.value (Go.Operand.func 10), args := #[Go.Operand.tmp 107], argTypes := #[22] }, type := 27, pos := "outright.go:41", after := #[{ on := 5, ground := Go.Ground.data }, { on := 1, ground := Go.Ground.chain }], guard := none }) rfl (fun K hK => ?_) ?_
                            · refine st_call1 (by rfl) 10 (.tmp 107) 22 (by rfl) (.slice (some ⟨g3, 0, none⟩) 3 3) e107_3 (hcf2 _) (.agg (u8s S).toArray) (Qt W3) (HCOF.out _ _ _ H23 H33 HA3 HB3) ?_
                              intro W4 q4
                              have Q4 := Q3.trans q4
                              have HA4 := blk_qt HA3 q4
                              have HB4 := blk_qt HB3 q4
                              have H24 := blk_qt H23 q4
                              have H34 := blk_qt H33 q4
                              refine hK _ _ ?_
                              clear hK K
                              refine gen_frame fun F4 hA => ?_
                              have hF : F4 = F3.put (some 108) (.agg (u8s S).toArray) := hA
                              have hF4 := Lib.hid hF
                              have e102_4 : F4.eval (.tmp 102) = Value.slice (some ⟨LB, lo, none⟩) nl c3 := by rw [hF, ev_other (by decide)]; exact e102_3
                              have e105_4 : F4.eval (.tmp 105) = Value.slice (some ⟨gA, 0, none⟩) 32 32 := by rw [hF, ev_other (by decide)]; exact e105_3
                              have e106_4 : F4.eval (.tmp 106) = Value.slice (some ⟨gB, 0, none⟩) 32 32 := by rw [hF, ev_other (by decide)]; exact e106_3
                              have e104_4 : F4.eval (.tmp 104) = (.slice (some ⟨g2, 0, none⟩) 1 1) := by rw [hF, ev_other (by decide)]; exact e104_3
                              have e103_4 : F4.eval (.tmp 103) = (.agg (u8s S).toArray) := by rw [hF, ev_other (by decide)]; exact e103_3
                              have e107_4 : F4.eval (.tmp 107) = (.slice (some ⟨g3, 0, none⟩) 3 3) := by rw [hF, ev_other (by decide)]; exact e107_3
                              have e108_4 : F4.eval (.tmp 108) = (.agg (u8s S).toArray) := by rw [hF]; exact ev_same (by rw [z3]; decide)
                              have z4 : F4.tmps.size = 111 := by rw [hF, put_size]; exact z3
                              clear hF hA
                              refine wpAny_ready (rs := [7]) (by kernel_rfl) (by simp) ?_
                              refine AllReady.cons (o := { dst := some 109, op := Go.Op.binOp Go.BinOp.eql 27 (Go.Operand.tmp 103) (Go.Operand.tmp 108) 27, type := 4, pos := "outright.go:41", after := #[{ on := 1, ground := Go.Ground.data }, { on := 6, ground := Go.Ground.data }], guard := none }) rfl (fun K hK => ?_) ?_
                              · refine st_run (by rfl) (.bool true) W4 (by simp only [execOp, e103_4, e108_4]; go_simp) ?_
                                obtain ⟨W5, hw5⟩ : ∃ W', W' = W4 := ⟨_, rfl⟩
                                rw [← hw5]
                                have Q5 := Q4
                                rw [← hw5] at Q5
                                clear hw5
                                refine hK _ _ ?_
                                clear hK K
                                refine gen_frame fun F5 hA => ?_
                                have hF : F5 = F4.put (some 109) (.bool true) := hA
                                have hF5 := Lib.hid hF
                                have e102_5 : F5.eval (.tmp 102) = Value.slice (some ⟨LB, lo, none⟩) nl c3 := by rw [hF, ev_other (by decide)]; exact e102_4
                                have e105_5 : F5.eval (.tmp 105) = Value.slice (some ⟨gA, 0, none⟩) 32 32 := by rw [hF, ev_other (by decide)]; exact e105_4
                                have e106_5 : F5.eval (.tmp 106) = Value.slice (some ⟨gB, 0, none⟩) 32 32 := by rw [hF, ev_other (by decide)]; exact e106_4
                                have e104_5 : F5.eval (.tmp 104) = (.slice (some ⟨g2, 0, none⟩) 1 1) := by rw [hF, ev_other (by decide)]; exact e104_4
                                have e103_5 : F5.eval (.tmp 103) = (.agg (u8s S).toArray) := by rw [hF, ev_other (by decide)]; exact e103_4
                                have e107_5 : F5.eval (.tmp 107) = (.slice (some ⟨g3, 0, none⟩) 3 3) := by rw [hF, ev_other (by decide)]; exact e107_4
                                have e108_5 : F5.eval (.tmp 108) = (.agg (u8s S).toArray) := by rw [hF, ev_other (by decide)]; exact e108_4
                                have e109_5 : F5.eval (.tmp 109) = (.bool true) := by rw [hF]; exact ev_same (by rw [z4]; decide)
                                have z5 : F5.tmps.size = 111 := by rw [hF, put_size]; exact z4
                                clear hF hA
                                refine wpAny_ready (rs := [8]) (by kernel_rfl) (by simp) ?_
                                refine AllReady.cons (o := { dst := some 12, op := Go.Op.assign (Go.Operand.tmp 109), type := 4, pos := "outright.go:41", after := #[{ on := 7, ground := Go.Ground.data }, { on := 6, ground := Go.Ground.chain }, { on := 0, ground := Go.Ground.phase }, { on := 1, ground := Go.Ground.phase }, { on := 2, ground := Go.Ground.phase }, { on := 3, ground := Go.Ground.phase }, { on := 4, ground := Go.Ground.phase }, { on := 5, ground := Go.Ground.phase }, { on := 6, ground := Go.Ground.phase }, { on := 7, ground := Go.Ground.phase }], guard := none }) rfl (fun K hK => ?_) ?_
                                · refine st_run (by rfl) (.bool true) W5 (run_as rfl e109_5 _) ?_
                                  obtain ⟨W6, hw6⟩ : ∃ W', W' = W5 := ⟨_, rfl⟩
                                  rw [← hw6]
                                  have Q6 := Q5
                                  rw [← hw6] at Q6
                                  clear hw6
                                  refine hK _ _ ?_
                                  clear hK K
                                  refine gen_frame fun F6 hA => ?_
                                  have hF : F6 = F5.put (some 12) (.bool true) := hA
                                  have hF6 := Lib.hid hF
                                  have e102_6 : F6.eval (.tmp 102) = Value.slice (some ⟨LB, lo, none⟩) nl c3 := by rw [hF, ev_other (by decide)]; exact e102_5
                                  have e105_6 : F6.eval (.tmp 105) = Value.slice (some ⟨gA, 0, none⟩) 32 32 := by rw [hF, ev_other (by decide)]; exact e105_5
                                  have e106_6 : F6.eval (.tmp 106) = Value.slice (some ⟨gB, 0, none⟩) 32 32 := by rw [hF, ev_other (by decide)]; exact e106_5
                                  have e104_6 : F6.eval (.tmp 104) = (.slice (some ⟨g2, 0, none⟩) 1 1) := by rw [hF, ev_other (by decide)]; exact e104_5
                                  have e103_6 : F6.eval (.tmp 103) = (.agg (u8s S).toArray) := by rw [hF, ev_other (by decide)]; exact e103_5
                                  have e107_6 : F6.eval (.tmp 107) = (.slice (some ⟨g3, 0, none⟩) 3 3) := by rw [hF, ev_other (by decide)]; exact e107_5
                                  have e108_6 : F6.eval (.tmp 108) = (.agg (u8s S).toArray) := by rw [hF, ev_other (by decide)]; exact e108_5
                                  have e109_6 : F6.eval (.tmp 109) = (.bool true) := by rw [hF, ev_other (by decide)]; exact e109_5
                                  have e12_6 : F6.eval (.tmp 12) = (.bool true) := by rw [hF]; exact ev_same (by rw [z5]; decide)
                                  have z6 : F6.tmps.size = 111 := by rw [hF, put_size]; exact z5
                                  clear hF hA
                                  refine wpAny_done (by kernel_rfl) ?_ _
                                  rw [hF6.out, hF5.out, hF4.out, hF3.out, hF2.out, hF1.out, hF0.out]
                                  go_wp2_with fail
                                  go_roundg (gk - p)
                                  case measure => have := HGP.out; omega
                                  case rel => exact ⟨p * 2, j + 1, true, by have := HGP.out; omega, by rw [Nat.pow_succ, HPJ.out], by omega, by go_num, rfl, fun h => absurd h h2, fun _ => rfl, HQ1.out.trans Q6⟩
                                exact AllReady.nil
                              exact AllReady.nil
                            exact AllReady.nil
                          exact AllReady.nil
                        refine AllReady.cons (o := { dst := some 107, op := Go.Op.buildSlice 22 3 #[(0, Go.Operand.tmp 104), (1, Go.Operand.tmp 105), (2, Go.Operand.tmp 106)], type := 22, pos := "outright.go:41", after := #[{ on := 2, ground := Go.Ground.data }, { on := 3, ground := Go.Ground.data }, { on := 4, ground := Go.Ground.data }], guard := none }) rfl (fun K hK => ?_) ?_
                        · refine st_mk (by rfl) 3 #[.slice (some ⟨g2, 0, none⟩) 1 1, .slice (some ⟨gA, 0, none⟩) 32 32, .slice (some ⟨gB, 0, none⟩) 32 32] 38 (by rw [run_bs (by rfl) (vals := #[(0, .slice (some ⟨g2, 0, none⟩) 1 1), (1, .slice (some ⟨gA, 0, none⟩) 32 32), (2, .slice (some ⟨gB, 0, none⟩) 32 32)]) (by simp [e104_1, e105_1, e106_1])]; go_simp) ?_
                          intro g3 W2 q2 l3 H32
                          have Q2 := Q1.trans q2
                          have HA2 := blk_qt HA1 q2
                          have HB2 := blk_qt HB1 q2
                          have H22 := blk_qt H21 q2
                          refine hK _ _ ?_
                          clear hK K
                          refine gen_frame fun F2 hA => ?_
                          have hF : F2 = F1.put (some 107) (.slice (some ⟨g3, 0, none⟩) 3 3) := hA
                          have hF2 := Lib.hid hF
                          have e102_2 : F2.eval (.tmp 102) = Value.slice (some ⟨LB, lo, none⟩) nl c3 := by rw [hF, ev_other (by decide)]; exact e102_1
                          have e105_2 : F2.eval (.tmp 105) = Value.slice (some ⟨gA, 0, none⟩) 32 32 := by rw [hF, ev_other (by decide)]; exact e105_1
                          have e106_2 : F2.eval (.tmp 106) = Value.slice (some ⟨gB, 0, none⟩) 32 32 := by rw [hF, ev_other (by decide)]; exact e106_1
                          have e104_2 : F2.eval (.tmp 104) = (.slice (some ⟨g2, 0, none⟩) 1 1) := by rw [hF, ev_other (by decide)]; exact e104_1
                          have e107_2 : F2.eval (.tmp 107) = (.slice (some ⟨g3, 0, none⟩) 3 3) := by rw [hF]; exact ev_same (by rw [z1]; decide)
                          have z2 : F2.tmps.size = 111 := by rw [hF, put_size]; exact z1
                          clear hF hA
                          refine wpAny_ready (rs := [1]) (by kernel_rfl) (by simp) ?_
                          refine AllReady.cons (o := { dst := some 103, op := Go.Op.call { callee := Go.Callee.value (Go.Operand.func 14), args := #[Go.Operand.tmp 102], argTypes := #[32] }, type := 27, pos := "outright.go:41", after := #[{ on := 0, ground := Go.Ground.data }], guard := none }) rfl (fun K hK => ?_) ?_
                          · refine st_call1 (by rfl) 14 (.tmp 102) 32 (by rfl) (Value.slice (some ⟨LB, lo, none⟩) nl c3) e102_2 (hcf _) (.agg (u8s S).toArray) (Qt W2) (HCL.out _ (HQ1.out.trans Q2)) ?_
                            intro W3 q3
                            have Q3 := Q2.trans q3
                            have HA3 := blk_qt HA2 q3
                            have HB3 := blk_qt HB2 q3
                            have H23 := blk_qt H22 q3
                            have H33 := blk_qt H32 q3
                            refine hK _ _ ?_
                            clear hK K
                            refine gen_frame fun F3 hA => ?_
                            have hF : F3 = F2.put (some 103) (.agg (u8s S).toArray) := hA
                            have hF3 := Lib.hid hF
                            have e102_3 : F3.eval (.tmp 102) = Value.slice (some ⟨LB, lo, none⟩) nl c3 := by rw [hF, ev_other (by decide)]; exact e102_2
                            have e105_3 : F3.eval (.tmp 105) = Value.slice (some ⟨gA, 0, none⟩) 32 32 := by rw [hF, ev_other (by decide)]; exact e105_2
                            have e106_3 : F3.eval (.tmp 106) = Value.slice (some ⟨gB, 0, none⟩) 32 32 := by rw [hF, ev_other (by decide)]; exact e106_2
                            have e104_3 : F3.eval (.tmp 104) = (.slice (some ⟨g2, 0, none⟩) 1 1) := by rw [hF, ev_other (by decide)]; exact e104_2
                            have e107_3 : F3.eval (.tmp 107) = (.slice (some ⟨g3, 0, none⟩) 3 3) := by rw [hF, ev_other (by decide)]; exact e107_2
                            have e103_3 : F3.eval (.tmp 103) = (.agg (u8s S).toArray) := by rw [hF]; exact ev_same (by rw [z2]; decide)
                            have z3 : F3.tmps.size = 111 := by rw [hF, put_size]; exact z2
                            clear hF hA
                            refine wpAny_ready (rs := [6]) (by kernel_rfl) (by simp) ?_
                            refine AllReady.cons (o := { dst := some 108, op := Go.Op.call { callee := Go.Callee.value (Go.Operand.func 10), args := #[Go.Operand.tmp 107], argTypes := #[22] }, type := 27, pos := "outright.go:41", after := #[{ on := 5, ground := Go.Ground.data }, { on := 1, ground := Go.Ground.chain }], guard := none }) rfl (fun K hK => ?_) ?_
                            · refine st_call1 (by rfl) 10 (.tmp 107) 22 (by rfl) (.slice (some ⟨g3, 0, none⟩) 3 3) e107_3 (hcf2 _) (.agg (u8s S).toArray) (Qt W3) (HCOF.out _ _ _ H23 H33 HA3 HB3) ?_
                              intro W4 q4
                              have Q4 := Q3.trans q4
                              have HA4 := blk_qt HA3 q4
                              have HB4 := blk_qt HB3 q4
                              have H24 := blk_qt H23 q4
                              have H34 := blk_qt H33 q4
                              refine hK _ _ ?_
                              clear hK K
                              refine gen_frame fun F4 hA => ?_
                              have hF : F4 = F3.put (some 108) (.agg (u8s S).toArray) := hA
                              have hF4 := Lib.hid hF
                              have e102_4 : F4.eval (.tmp 102) = Value.slice (some ⟨LB, lo, none⟩) nl c3 := by rw [hF, ev_other (by decide)]; exact e102_3
                              have e105_4 : F4.eval (.tmp 105) = Value.slice (some ⟨gA, 0, none⟩) 32 32 := by rw [hF, ev_other (by decide)]; exact e105_3
                              have e106_4 : F4.eval (.tmp 106) = Value.slice (some ⟨gB, 0, none⟩) 32 32 := by rw [hF, ev_other (by decide)]; exact e106_3
                              have e104_4 : F4.eval (.tmp 104) = (.slice (some ⟨g2, 0, none⟩) 1 1) := by rw [hF, ev_other (by decide)]; exact e104_3
                              have e107_4 : F4.eval (.tmp 107) = (.slice (some ⟨g3, 0, none⟩) 3 3) := by rw [hF, ev_other (by decide)]; exact e107_3
                              have e103_4 : F4.eval (.tmp 103) = (.agg (u8s S).toArray) := by rw [hF, ev_other (by decide)]; exact e103_3
                              have e108_4 : F4.eval (.tmp 108) = (.agg (u8s S).toArray) := by rw [hF]; exact ev_same (by rw [z3]; decide)
                              have z4 : F4.tmps.size = 111 := by rw [hF, put_size]; exact z3
                              clear hF hA
                              refine wpAny_ready (rs := [7]) (by kernel_rfl) (by simp) ?_
                              refine AllReady.cons (o := { dst := some 109, op := Go.Op.binOp Go.BinOp.eql 27 (Go.Operand.tmp 103) (Go.Operand.tmp 108) 27, type := 4, pos := "outright.go:41", after := #[{ on := 1, ground := Go.Ground.data }, { on := 6, ground := Go.Ground.data }], guard := none }) rfl (fun K hK => ?_) ?_
                              · refine st_run (by rfl) (.bool true) W4 (by simp only [execOp, e103_4, e108_4]; go_simp) ?_
                                obtain ⟨W5, hw5⟩ : ∃ W', W' = W4 := ⟨_, rfl⟩
                                rw [← hw5]
                                have Q5 := Q4
                                rw [← hw5] at Q5
                                clear hw5
                                refine hK _ _ ?_
                                clear hK K
                                refine gen_frame fun F5 hA => ?_
                                have hF : F5 = F4.put (some 109) (.bool true) := hA
                                have hF5 := Lib.hid hF
                                have e102_5 : F5.eval (.tmp 102) = Value.slice (some ⟨LB, lo, none⟩) nl c3 := by rw [hF, ev_other (by decide)]; exact e102_4
                                have e105_5 : F5.eval (.tmp 105) = Value.slice (some ⟨gA, 0, none⟩) 32 32 := by rw [hF, ev_other (by decide)]; exact e105_4
                                have e106_5 : F5.eval (.tmp 106) = Value.slice (some ⟨gB, 0, none⟩) 32 32 := by rw [hF, ev_other (by decide)]; exact e106_4
                                have e104_5 : F5.eval (.tmp 104) = (.slice (some ⟨g2, 0, none⟩) 1 1) := by rw [hF, ev_other (by decide)]; exact e104_4
                                have e107_5 : F5.eval (.tmp 107) = (.slice (some ⟨g3, 0, none⟩) 3 3) := by rw [hF, ev_other (by decide)]; exact e107_4
                                have e103_5 : F5.eval (.tmp 103) = (.agg (u8s S).toArray) := by rw [hF, ev_other (by decide)]; exact e103_4
                                have e108_5 : F5.eval (.tmp 108) = (.agg (u8s S).toArray) := by rw [hF, ev_other (by decide)]; exact e108_4
                                have e109_5 : F5.eval (.tmp 109) = (.bool true) := by rw [hF]; exact ev_same (by rw [z4]; decide)
                                have z5 : F5.tmps.size = 111 := by rw [hF, put_size]; exact z4
                                clear hF hA
                                refine wpAny_ready (rs := [8]) (by kernel_rfl) (by simp) ?_
                                refine AllReady.cons (o := { dst := some 12, op := Go.Op.assign (Go.Operand.tmp 109), type := 4, pos := "outright.go:41", after := #[{ on := 7, ground := Go.Ground.data }, { on := 6, ground := Go.Ground.chain }, { on := 0, ground := Go.Ground.phase }, { on := 1, ground := Go.Ground.phase }, { on := 2, ground := Go.Ground.phase }, { on := 3, ground := Go.Ground.phase }, { on := 4, ground := Go.Ground.phase }, { on := 5, ground := Go.Ground.phase }, { on := 6, ground := Go.Ground.phase }, { on := 7, ground := Go.Ground.phase }], guard := none }) rfl (fun K hK => ?_) ?_
                                · refine st_run (by rfl) (.bool true) W5 (run_as rfl e109_5 _) ?_
                                  obtain ⟨W6, hw6⟩ : ∃ W', W' = W5 := ⟨_, rfl⟩
                                  rw [← hw6]
                                  have Q6 := Q5
                                  rw [← hw6] at Q6
                                  clear hw6
                                  refine hK _ _ ?_
                                  clear hK K
                                  refine gen_frame fun F6 hA => ?_
                                  have hF : F6 = F5.put (some 12) (.bool true) := hA
                                  have hF6 := Lib.hid hF
                                  have e102_6 : F6.eval (.tmp 102) = Value.slice (some ⟨LB, lo, none⟩) nl c3 := by rw [hF, ev_other (by decide)]; exact e102_5
                                  have e105_6 : F6.eval (.tmp 105) = Value.slice (some ⟨gA, 0, none⟩) 32 32 := by rw [hF, ev_other (by decide)]; exact e105_5
                                  have e106_6 : F6.eval (.tmp 106) = Value.slice (some ⟨gB, 0, none⟩) 32 32 := by rw [hF, ev_other (by decide)]; exact e106_5
                                  have e104_6 : F6.eval (.tmp 104) = (.slice (some ⟨g2, 0, none⟩) 1 1) := by rw [hF, ev_other (by decide)]; exact e104_5
                                  have e107_6 : F6.eval (.tmp 107) = (.slice (some ⟨g3, 0, none⟩) 3 3) := by rw [hF, ev_other (by decide)]; exact e107_5
                                  have e103_6 : F6.eval (.tmp 103) = (.agg (u8s S).toArray) := by rw [hF, ev_other (by decide)]; exact e103_5
                                  have e108_6 : F6.eval (.tmp 108) = (.agg (u8s S).toArray) := by rw [hF, ev_other (by decide)]; exact e108_5
                                  have e109_6 : F6.eval (.tmp 109) = (.bool true) := by rw [hF, ev_other (by decide)]; exact e109_5
                                  have e12_6 : F6.eval (.tmp 12) = (.bool true) := by rw [hF]; exact ev_same (by rw [z5]; decide)
                                  have z6 : F6.tmps.size = 111 := by rw [hF, put_size]; exact z5
                                  clear hF hA
                                  refine wpAny_done (by kernel_rfl) ?_ _
                                  rw [hF6.out, hF5.out, hF4.out, hF3.out, hF2.out, hF1.out, hF0.out]
                                  go_wp2_with fail
                                  go_roundg (gk - p)
                                  case measure => have := HGP.out; omega
                                  case rel => exact ⟨p * 2, j + 1, true, by have := HGP.out; omega, by rw [Nat.pow_succ, HPJ.out], by omega, by go_num, rfl, fun h => absurd h h2, fun _ => rfl, HQ1.out.trans Q6⟩
                                exact AllReady.nil
                              exact AllReady.nil
                            exact AllReady.nil
                          exact AllReady.nil
                        exact AllReady.nil
                      exact AllReady.nil
                · obtain rfl : fb = true := hf2 hp
                  clear hf1 hf2
                  go_wp2
                  go_ret
                  exact ⟨rfl, HQ.out⟩
      · have d2 : decide (40 < (l.length : Int)) = true := by simp; omega
        go_wp2
        go_ret
        exact ⟨rfl, Q1.out.alloc _⟩
    · have d1 : decide (40 < (zs.length : Int)) = true := by simp; omega
      go_wp2
      go_ret
      exact ⟨rfl, Q1.out.alloc _⟩
end Go.Proofs.Ytjpimfbkdighfaa
