import Derived.Test.YtipgpnkdgofdeaaJB
import Derived.Deep.RegionLaw
import Derived.IntWalk
/-! The reference's Join, of. -/
namespace Go.Proofs.Ytipgpnkdgofdeaa.Tm
open Go.RowKit
set_option linter.unusedVariables false
set_option linter.unusedSimpArgs false

set_option maxRecDepth 100000 in
set_option maxHeartbeats 2000000 in
theorem refJoin_any (n : Nd) (ls : List (List Nd)) (A : Option Addr) (c : Nat) (w : World) (h1 : ls.length ≤ 1000) (h2 : ls.flatten.length ≤ 100000) (hA : TermsIn w A ls) :
    Calls Try.prog 49 #[.agg (ndc n).toArray, .slice A ls.length c] w fun e w' => ∃ A' c', e = .returned (.agg #[.slice A' (joinL n ls).length c']) ∧ Lies w' (fun k => w.heap.size ≤ k ∧ k < w'.heap.size) (.slice A' (joinL n ls).length c') (joinL n ls) ∧ Qt w w' := by
  obtain ⟨ts, hts⟩ : ∃ fs, Try.prog.underlying 24 = some (.struct fs) := ⟨_, Try.underlying24⟩
  obtain ⟨ns, hns⟩ : ∃ fs, Try.prog.underlying 32 = some (.struct fs) := ⟨_, Try.underlying32⟩
  obtain ⟨i0, z0, hi0, hz0, hz1, hz2, hz3⟩ := infoNd
  obtain ⟨nn, hnn⟩ : ∃ nn : Nd, nn = ⟨n.f0, n.f1, n.f2, n.f3, (ls.length : Int)⟩ := ⟨_, rfl⟩
  have hb2 : Blk ((w.alloc (.cells (ndc n).toArray 32)).alloc (.cells #[.slice none 0 0] 24)) w.heap.size 32 (ndc n) := (show Blk (w.alloc (.cells (ndc n).toArray 32)) _ _ (ndc n) from heap_alloc_new w _).alloc _
  have c4 := (hb2.cell 4).trans (show (ndc n)[4]? = some (.int .i64 n.f4) from rfl)
  have f4 := hb2.frozen 4
  have hb2' : Blk ((w.alloc (.cells ((ndc n).set 4 (.int .i64 (ls.length : Int))).toArray 32)).alloc (.cells #[.slice none 0 0] 24)) w.heap.size 32 (ndc nn) := by
    have h := (show Blk (w.alloc (.cells ((ndc n).set 4 (.int .i64 (ls.length : Int))).toArray 32)) _ _ ((ndc n).set 4 (.int .i64 (ls.length : Int))) from heap_alloc_new w _).alloc (.cells #[.slice none 0 0] 24)
    rw [hnn]; exact h
  have hb4' : Blk ((w.alloc (.cells ((ndc n).set 4 (.int .i64 (ls.length : Int))).toArray 32)).alloc (.cells #[.slice none 0 0] 24)) (w.heap.size + 1) 24 [.slice none 0 0] := by
    have h := heap_alloc_new (w.alloc (.cells ((ndc n).set 4 (.int .i64 (ls.length : Int))).toArray 32)) (.cells #[.slice none 0 0] 24)
    rw [show (w.alloc (.cells ((ndc n).set 4 (.int .i64 (ls.length : Int))).toArray 32)).heap.size = w.heap.size + 1 from by simp] at h
    exact h
  have HTS := Lib.hid hts
  have HNS := Lib.hid hns
  have HI0 := Lib.hid hi0
  have HZ0 := Lib.hid hz0
  have HZ1 := Lib.hid hz1
  have HZ2 := Lib.hid hz2
  have HZ3 := Lib.hid hz3
  have HB2 := Lib.hid hb2'
  have HB4 := Lib.hid hb4'
  have HQ1 := Lib.hid (show Qt w ((w.alloc (.cells ((ndc n).set 4 (.int .i64 (ls.length : Int))).toArray 32)).alloc (.cells #[.slice none 0 0] 24)) from ((Qt.refl w).alloc _).alloc _)
  have HA := Lib.hid hA
  have HNN := Lib.hid hnn
  clear hts hns hi0 hz0 hz1 hz2 hz3 hb2 hA hnn hb2' hb4'
  go_enter Try.func49, Try.ntmps49
  go_wp2_with (first
    | (refine armLd rfl 32 (.tmp 2) rfl w.heap.size rfl (cs := ndc nn) HB2.out (.struct ns) HNS.out rfl (by kernel_rfl) ?_)
    | (refine armB1L rfl (.tmp 10) rfl nn rfl (w.heap.size + 2) (by simp) ?_; intro w2 g ho hq hg; (have HO := Lib.hid ho); (have HB := Lib.hid (HB4.out.qt hq)); (have HQ := Lib.hid (HQ1.out.trans hq)); clear ho hq)
    | (refine armSt rfl 24 (.tmp 5) (.tmp 12) rfl w2.heap.size [.slice (some ⟨g, 0, none⟩) 1 1] rfl rfl (t := 24) (old := [.slice none 0 0]) (heap_alloc_new w2 _) (by kernel_rfl) rfl (by intro u hu; rw [List.mem_singleton.1 hu]; rfl) ?_; intro w3 og3 hz3 hb3; (have q3 : Qt w2 w3 := og3.qt ((Qt.refl w2).alloc _) (Nat.le_refl _)); (have HO3 := Lib.hid (HO.out.below q3)); (have HB3 := Lib.hid (HB.out.qt q3)); (have HQ3 := Lib.hid (HQ.out.trans q3)); (have HG5 := Lib.hid hb3); (have HGS := Lib.hid (HO.out.lt g rfl)); clear og3 hb3 q3))
  obtain ⟨G, hG⟩ : ∃ G, G = w2.heap.size := ⟨_, rfl⟩
  have hGl : w.heap.size + 2 ≤ G := by have := HGS.out.1; have := HGS.out.2; omega
  have hgG : g ≠ G := by have := HGS.out.1; have := HGS.out.2; omega
  rw [← hG] at HG5 ⊢
  clear hG HB2 HB4 HQ1 HO HB HQ HGS c4 f4
  go_loopw [6] (fun i wr => ∃ (j : Nat) (m : Nat) (v : Value), j ≤ ls.length ∧ i = .int .i64 j ∧ m = 1 + (ls.take j).flatten.length ∧ OQ wr (w.heap.size + 2) 5 v m (ndcs (nn :: (ls.take j).flatten)) ∧ v.ownBlock ≠ some G ∧ Blk wr G 24 [v] ∧ Blk wr (w.heap.size + 1) 24 [.slice none 0 0] ∧ Qt w wr) (fun i _ => ls.length - (intOf i).toNat)
  case atStart => exact ⟨0, 1, _, by omega, rfl, rfl, HO3.out, (fun e => hgG (Option.some.inj e)), HG5.out, HB3.out, HQ3.out⟩
  case round =>
    obtain ⟨j, m, v, hj, rfl, hm, ho, hvG, hbG, hb, hq⟩ := hrel
    obtain ⟨ra, rc, rfl⟩ := ho.slice
    have hfl := flatten_take_le ls j
    have cG : wr.cell? ⟨G, 0, none⟩ = some (.slice ra m rc) := hbG.cell 0
    have HO2 := Lib.hid ho
    have HBB := Lib.hid hb
    have HBG := Lib.hid hbG
    have HQQ := Lib.hid hq
    have HM := Lib.hid hm
    have HVG := Lib.hid hvG
    have hm1 : m ≤ 1 + (ls.take j).flatten.length := by omega
    clear ho hb hbG HO3 HB3 HQ3 HG5 hm hvG
    by_cases hlt : j < ls.length
    · obtain ⟨l, hl⟩ : ∃ l, ls[j]? = some l := ⟨_, List.getElem?_eq_getElem hlt⟩
      obtain ⟨b, off, rfl, B, d, hc, hli⟩ := (HA.out.qt hq) j l hl
      have HFT := Lib.hid (flatten_take ls j l hl)
      have hfl2 := flatten_take_le ls (j + 1)
      rw [HFT.out, List.length_append] at hfl2
      have HLI := Lib.hid hli
      have hlj : ¬ ls.length ≤ j := by omega
      clear hli hq hl
      go_wp2
      go_region_law ((refine step_appQ (by rfl) (.tmp 20) (.tmp 25) 22 22 (by rfl) (w.heap.size + 2) 32 i0 z0 5 48 (by kernel_rfl) HI0.out HZ0.out HZ1.out HZ2.out HZ3.out _ m _ (by rfl) HO2.out.drew _ l.length (ndcs l) (by rfl) (Src.ofRd (e' := 32) (by kernel_rfl) (HLI.out.up (Qt.refl wr).drew).rd (ndcs_len l) (by decide) (ndcs_one l)) (by unfold maxLen; omega) (by omega) (by have := HBB.out.lt; show _ ≤ wr.heap.size; omega) ?_; intro v5 w5 h5 g5 r5; obtain ⟨va5, vc5, rfl⟩ := h5.slice; (have hb5 := (show Blk wr.drew _ _ _ from HBG.out).grown g5 (fun e => HVG.out e.symm)); (have c5 : w5.cell? ⟨G, 0, none⟩ = some (.slice ra m rc) := hb5.cell 0); (have f5 := hb5.frozen 0); (have HO5 := Lib.hid h5); (have HG5 := Lib.hid g5); (have HR5 := Lib.hid r5); (have HBG5 := Lib.hid hb5); (have HB5 := Lib.hid ((show Blk wr.drew _ _ _ from HBB.out).grown g5 (fun e => by have := (HO2.out.lt _ e.symm).1; omega))); clear h5 g5 r5 hb5))
      all_goals
        go_wp2
        go_roundw
        case rel =>
          have og6 : Og G w5 (w5.setCell ⟨G, 0, none⟩ (.slice va5 (m + l.length) vc5)) := (Og.refl G w5).setCell (.inl rfl) _
          have hb5 : Qt w w5 := Below.trans (HQQ.out.drew) ⟨HG5.out.os, HG5.out.tape, HG5.out.output, HG5.out.size, fun k hk => HG5.out.block k (by have := HQQ.out.size; show k < wr.heap.size; omega) (fun e => by have := (HO2.out.lt k e.symm).1; omega)⟩
          have hvn : (Value.slice va5 (m + l.length) vc5).ownBlock ≠ some G := by
            rcases HR5.out with e | ⟨g', e, hg'⟩
            · rw [e]; exact HVG.out
            · rw [e]; intro e'; have := Option.some.inj e'; have := HBG.out.lt; have : wr.drew.heap.size = wr.heap.size := rfl; omega
          have hoq := HO5.out
          rw [← ndcs_app] at hoq
          have hcat : nn :: (ls.take j).flatten ++ l = nn :: (ls.take (j + 1)).flatten := by rw [HFT.out]; rfl
          rw [hcat] at hoq
          exact ⟨j + 1, m + l.length, _, by omega, by go_num, by rw [HFT.out, List.length_append, HM.out]; omega, hoq.grown og6 (.inr (fun e => hvn e.symm)), hvn, HBG5.out.set 0 _, HB5.out.og og6 (by omega), og6.qt hb5 (by omega)⟩
        case measure => simp [intOf]; omega
    · obtain rfl : j = ls.length := by omega
      have hm := HM.out
      rw [List.take_length] at hm hfl
      have HO4 := Lib.hid (show OQ wr (w.heap.size + 2) 5 (.slice ra m rc) m (ndcs (nn :: ls.flatten)) by have := HO2.out; rwa [List.take_length] at this)
      have hml : m = (joinL n ls).length := by rw [hm]; simp [joinL]; omega
      have HML := Lib.hid hml
      clear HO2 hml hm
      go_wp2_with (first
        | (refine armLd rfl 24 (.tmp 5) rfl G rfl HBG.out (.struct ts) HTS.out rfl (by kernel_rfl) ?_)
        | (refine armSt rfl 24 (.tmp 4) (.tmp 28) rfl (w.heap.size + 1) [.slice ra m rc] rfl rfl HBB.out (by kernel_rfl) rfl (by intro u hu; rw [List.mem_singleton.1 hu]; rfl) ?_; intro w7 og7 hz7 hb7; (have HB7 := Lib.hid hb7); (have HOG7 := Lib.hid og7); clear hb7 og7))
      refine bodyPost_ret (v := .agg #[.slice ra m rc]) (results_c1 (cs := [.slice ra m rc]) rfl _ _ (w.heap.size + 1) (.struct ts) rfl HB7.out HTS.out rfl (by kernel_rfl)) rfl ?_
      have ho7 : OQ w7 (w.heap.size + 2) 5 (.slice ra m rc) m (ndcs (nn :: ls.flatten)) := HO4.out.grown HOG7.out (.inr (fun e => by have := (HO4.out.lt _ e.symm).1; omega))
      have e2 : nn :: ls.flatten = joinL n ls := by rw [HNN.out]; rfl
      rw [e2, HML.out] at ho7
      rw [HML.out]
      exact ⟨ra, rc, rfl, (OQ.lies ho7).mono (fun i hi => ⟨by omega, hi.2⟩), HOG7.out.qt HQQ.out (by omega)⟩

set_option maxHeartbeats 1000000 in
theorem ofT_any (k : Int) (ls : List (List Nd)) (A : Option Addr) (c : Nat) (w : World) (h1 : ls.length ≤ 1000) (h2 : ls.flatten.length ≤ 100000) (hA : TermsIn w A ls) :
    Calls Try.prog 26 #[.int .i64 k, .slice A ls.length c] w fun e w' => ∃ A' c', e = .returned (.agg #[.slice A' (joinL ⟨k, 0, 0, ⟨#[]⟩, 0⟩ ls).length c']) ∧ Lies w' (fun k => w.heap.size ≤ k ∧ k < w'.heap.size) (.slice A' (joinL ⟨k, 0, 0, ⟨#[]⟩, 0⟩ ls).length c') (joinL ⟨k, 0, 0, ⟨#[]⟩, 0⟩ ls) ∧ Qt w w' := by
  obtain ⟨ts, hts⟩ : ∃ fs, Try.prog.underlying 24 = some (.struct fs) := ⟨_, Try.underlying24⟩
  have q1 : Qt w (w.alloc (.cells #[.slice none 0 0] 24)) := (Qt.refl w).alloc _
  have HJ := Lib.hid (refJoin_any ⟨k, 0, 0, ⟨#[]⟩, 0⟩ ls A c _ h1 h2 (hA.qt q1))
  have HB := Lib.hid (show Blk (w.alloc (.cells #[.slice none 0 0] 24)) w.heap.size 24 [.slice none 0 0] from heap_alloc_new w _)
  have HQ1 := Lib.hid q1
  have HTS := Lib.hid hts
  clear hA q1 hts
  generalize joinL ⟨k, 0, 0, ⟨#[]⟩, 0⟩ ls = jl at *
  go_enter Try.func26, Try.ntmps26
  go_wp2_with (first
    | (go_at_call 49; refine HJ.out.mono ?_; rintro e w2 ⟨A2, c2, rfl, hl, q2⟩; (have HL := Lib.hid hl); (have HQ2 := Lib.hid q2); (have HB2 := Lib.hid (HB.out.qt q2)); clear hl q2)
    | (refine armSt rfl 24 (.tmp 4) (.tmp 8) rfl w.heap.size [.slice A2 jl.length c2] rfl rfl HB2.out (by kernel_rfl) rfl (by intro u hu; rw [List.mem_singleton.1 hu]; rfl) ?_; intro w3 og3 hz3 hb3; (have HB3 := Lib.hid hb3); (have HOG3 := Lib.hid og3); clear hb3 og3))
  refine bodyPost_ret (v := .agg #[.slice A2 jl.length c2]) (results_c1 (cs := [.slice A2 jl.length c2]) rfl _ _ w.heap.size (.struct ts) rfl HB3.out HTS.out rfl (by kernel_rfl)) rfl ?_
  refine ⟨A2, c2, rfl, ?_, HOG3.out.qt (HQ1.out.trans HQ2.out) (Nat.le_refl _)⟩
  have hsz : (w.alloc (.cells #[.slice none 0 0] 24)).heap.size = w.heap.size + 1 := by simp
  have hl := HL.out
  rw [hsz] at hl
  exact (hl.move fun i hi ho => HOG3.out.block i hi (fun e => by have e' := Option.some.inj e; have := ho.1; omega)).mono fun i hi => ⟨by have := hi.1; omega, Nat.lt_of_lt_of_le hi.2 HOG3.out.size⟩
end Go.Proofs.Ytipgpnkdgofdeaa.Tm
