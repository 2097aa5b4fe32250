import Derived.Test.YtipgpnkdgofdeaaKB
/-! Kid; printed by genkid.py. -/
namespace Go.Proofs.Ytipgpnkdgofdeaa.Tm
open Go.RowKit
set_option linter.unusedVariables false
set_option linter.unusedSimpArgs false

def kidL (l : List Nd) (n : Int) : Option (List Nd) := if n < 0 then none else (kidsL l)[n.toNat]?
section
variable (l : List Nd) (v : Value) (lb : Nat → Prop) (w : World) (hm : l.length ≤ 1000000) (h : Lies w lb v l) (hlb : ∀ k, lb k → k < w.heap.size) (n : Int)
include hm h hlb
set_option maxRecDepth 100000 in
set_option maxHeartbeats 1000000 in
theorem kid_any : Calls Try.prog 31 #[.agg #[v], .int .i64 n] w fun e w' => ∃ A c x, e = .returned (.tuple #[.agg #[.slice A x.length c], .bool (kidL l n).isSome]) ∧ Lies w' (fun k => k < w'.heap.size) (.slice A x.length c) x ∧ (∀ y, kidL l n = some y → x = y) ∧ Qt w w' := by
  obtain ⟨gs, hgs⟩ : ∃ fs, Try.prog.underlying 60 = some (.struct fs) := ⟨_, Try.underlying60⟩
  obtain ⟨ts, hts⟩ : ∃ fs, Try.prog.underlying 24 = some (.struct fs) := ⟨_, Try.underlying24⟩
  obtain ⟨A, c, rfl⟩ := h.form
  have q1 : Qt w ((w.alloc (.cells #[.slice A l.length c] 24)).alloc (.cells #[.slice none 0 0] 24)) := ((Qt.refl w).alloc _).alloc _
  have hb0 : Blk ((w.alloc (.cells #[.slice A l.length c] 24)).alloc (.cells #[.slice none 0 0] 24)) w.heap.size 24 [.slice A l.length c] := (show Blk (w.alloc (.cells #[.slice A l.length c] 24)) _ _ [.slice A l.length c] from heap_alloc_new w _).alloc _
  have hb1 : Blk ((w.alloc (.cells #[.slice A l.length c] 24)).alloc (.cells #[.slice none 0 0] 24)) (w.heap.size + 1) 24 [.slice none 0 0] := by
    have h := heap_alloc_new (w.alloc (.cells #[.slice A l.length c] 24)) (.cells #[.slice none 0 0] 24)
    rw [show (w.alloc (.cells #[.slice A l.length c] 24)).heap.size = w.heap.size + 1 from by simp] at h
    exact h
  have HO := Lib.hid (open_one l _ lb _ hm (h.qt q1) (fun k hk => Nat.lt_of_lt_of_le (hlb k hk) q1.size))
  have HQ1 := Lib.hid q1
  have HB0 := Lib.hid hb0
  have HB1 := Lib.hid hb1
  have HGS := Lib.hid hgs
  have HTS := Lib.hid hts
  have HLB := Lib.hid (fun k hk => Nat.lt_of_lt_of_le (hlb k hk) q1.size)
  clear h hlb q1 hgs hts hb0 hb1
  have hdl : kidsL l = match opn l with | none => [] | some t => t.kids.map Tr.flat := rfl
  have hflat : ∀ t, opn l = some t → t.flat.length ≤ 1000000 := fun t ht => by rw [← opn_flat ht]; exact hm
  cases ho : opn l with
  | none =>
    rw [ho] at HO hdl
    have hk : kidL l n = none := by unfold kidL; rw [hdl]; split <;> simp
    have HK0 := Lib.hid hk
    rw [hk]
    clear ho hflat hdl hk
    go_enter Try.func31, Try.ntmps31
    go_wp2_with (first
      | (refine armLd rfl 24 (.tmp 2) rfl w.heap.size rfl (cs := [.slice A l.length c]) HB0.out (.struct ts) HTS.out rfl (by kernel_rfl) ?_)
      | (go_at_call 42; refine HO.out.mono ?_; rintro e w2 ⟨q2, cs, h7, h1, rfl, hb⟩; (have HQ2 := Lib.hid q2); (have HB2 := Lib.hid (HB1.out.qt q2)); clear q2 hb)
      | (refine armSt rfl 60 (.tmp 6) (.tmp 11) rfl w2.heap.size cs rfl rfl (t := 60) (old := zBr) (heap_alloc_new w2 _) (by rw [h7]; kernel_rfl) (by rw [h7]; rfl) h1 ?_; intro w3 og3 hz3 hb3; (have HQ3 := Lib.hid (show Qt w2 w3 from og3.qt ((Qt.refl w2).alloc _) (Nat.le_refl _))); (have HB3 := Lib.hid (HB2.out.qt HQ3.out)); clear og3 hb3)
      | (refine armSt rfl 24 (.tmp 4) (.tmp 26) rfl (w.heap.size + 1) [.slice none 0 0] rfl rfl HB3.out (by kernel_rfl) rfl (by intro u hu; rw [List.mem_singleton.1 hu]; rfl) ?_; intro w7 og7 hz7 hb7; (have HB7 := Lib.hid hb7); (have HOG7 := Lib.hid og7); clear hb7 og7))
    refine bodyPost_ret (v := .tuple #[.agg #[.slice none 0 0], .bool false]) (results_ct (cs := [.slice none 0 0]) rfl _ _ (w.heap.size + 1) (.struct ts) rfl HB7.out _ rfl HTS.out rfl (by kernel_rfl)) rfl ?_
    exact ⟨none, 0, [], rfl, ⟨none, 0, rfl, Nat.le_refl _, fun h => absurd rfl h⟩, (fun y hy => by cases hy), HOG7.out.qt ((HQ1.out.trans HQ2.out).trans HQ3.out) (by omega)⟩
  | some t =>
    obtain ⟨nd, ks⟩ := t
    rw [ho] at HO hdl
    have hfl := hflat _ ho
    have HFL := Lib.hid hfl
    clear ho hfl hflat
    have hdl' : kidsL l = ks.map Tr.flat := hdl
    clear hdl
    have hkl : ks.length ≤ 1000000 := by have := flats_len ks; have := HFL.out; simp [Tr.flat] at this; omega
    by_cases hn0 : n < 0
    · have hk : kidL l n = none := by unfold kidL; rw [if_pos hn0]
      have HK0 := Lib.hid hk
      rw [hk]
      clear hk hdl'
      go_enter Try.func31, Try.ntmps31
      go_wp2_with (first
        | (refine armLd rfl 24 (.tmp 2) rfl w.heap.size rfl (cs := [.slice A l.length c]) HB0.out (.struct ts) HTS.out rfl (by kernel_rfl) ?_)
        | (go_at_call 42; refine HO.out.mono ?_; rintro e w2 ⟨q2, cs, h7, h1, rfl, hb⟩; (have hb := hb _ rfl); obtain ⟨KA, kc, avA, avc, cf, hcs, -, -, h5, hc, hK, -⟩ := hb.parts; (have HK := Lib.hid hK); (have HQ2 := Lib.hid q2); (have HB2 := Lib.hid (HB1.out.qt q2)); (have HC5 := Lib.hid h5); clear q2 hb hcs h5 hK hc)
        | (refine armSt rfl 60 (.tmp 6) (.tmp 11) rfl w2.heap.size cs rfl rfl (t := 60) (old := zBr) (heap_alloc_new w2 _) (by rw [h7]; kernel_rfl) (by rw [h7]; rfl) h1 ?_; intro w3 og3 hz3 hb3; (have c5 : w3.cell? ⟨w2.heap.size, 5, none⟩ = some (.slice KA ks.length kc) := (hb3.cell 5).trans HC5.out); (have HQ3 := Lib.hid (show Qt w2 w3 from og3.qt ((Qt.refl w2).alloc _) (Nat.le_refl _))); (have HB3 := Lib.hid (HB2.out.qt HQ3.out)); clear og3 hb3)
        | (refine armSt rfl 24 (.tmp 4) (.tmp 26) rfl (w.heap.size + 1) [.slice none 0 0] rfl rfl HB3.out (by kernel_rfl) rfl (by intro u hu; rw [List.mem_singleton.1 hu]; rfl) ?_; intro w7 og7 hz7 hb7; (have HB7 := Lib.hid hb7); (have HOG7 := Lib.hid og7); clear hb7 og7))
      refine bodyPost_ret (v := .tuple #[.agg #[.slice none 0 0], .bool false]) (results_ct (cs := [.slice none 0 0]) rfl _ _ (w.heap.size + 1) (.struct ts) rfl HB7.out _ rfl HTS.out rfl (by kernel_rfl)) rfl ?_
      exact ⟨none, 0, [], rfl, ⟨none, 0, rfl, Nat.le_refl _, fun h => absurd rfl h⟩, (fun y hy => by cases hy), HOG7.out.qt ((HQ1.out.trans HQ2.out).trans HQ3.out) (by omega)⟩
    by_cases hn1 : (ks.length : Int) ≤ n
    · have hk : kidL l n = none := by
        unfold kidL
        rw [if_neg hn0, hdl', List.getElem?_eq_none]
        rw [List.length_map]; omega
      have HK0 := Lib.hid hk
      rw [hk]
      clear hk hdl'
      go_enter Try.func31, Try.ntmps31
      go_wp2_with (first
        | (refine armLd rfl 24 (.tmp 2) rfl w.heap.size rfl (cs := [.slice A l.length c]) HB0.out (.struct ts) HTS.out rfl (by kernel_rfl) ?_)
        | (go_at_call 42; refine HO.out.mono ?_; rintro e w2 ⟨q2, cs, h7, h1, rfl, hb⟩; (have hb := hb _ rfl); obtain ⟨KA, kc, avA, avc, cf, hcs, -, -, h5, hc, hK, -⟩ := hb.parts; (have HK := Lib.hid hK); (have HQ2 := Lib.hid q2); (have HB2 := Lib.hid (HB1.out.qt q2)); (have HC5 := Lib.hid h5); clear q2 hb hcs h5 hK hc)
        | (refine armSt rfl 60 (.tmp 6) (.tmp 11) rfl w2.heap.size cs rfl rfl (t := 60) (old := zBr) (heap_alloc_new w2 _) (by rw [h7]; kernel_rfl) (by rw [h7]; rfl) h1 ?_; intro w3 og3 hz3 hb3; (have c5 : w3.cell? ⟨w2.heap.size, 5, none⟩ = some (.slice KA ks.length kc) := (hb3.cell 5).trans HC5.out); (have HQ3 := Lib.hid (show Qt w2 w3 from og3.qt ((Qt.refl w2).alloc _) (Nat.le_refl _))); (have HB3 := Lib.hid (HB2.out.qt HQ3.out)); clear og3 hb3)
        | (refine armSt rfl 24 (.tmp 4) (.tmp 26) rfl (w.heap.size + 1) [.slice none 0 0] rfl rfl HB3.out (by kernel_rfl) rfl (by intro u hu; rw [List.mem_singleton.1 hu]; rfl) ?_; intro w7 og7 hz7 hb7; (have HB7 := Lib.hid hb7); (have HOG7 := Lib.hid og7); clear hb7 og7))
      refine bodyPost_ret (v := .tuple #[.agg #[.slice none 0 0], .bool false]) (results_ct (cs := [.slice none 0 0]) rfl _ _ (w.heap.size + 1) (.struct ts) rfl HB7.out _ rfl HTS.out rfl (by kernel_rfl)) rfl ?_
      exact ⟨none, 0, [], rfl, ⟨none, 0, rfl, Nat.le_refl _, fun h => absurd rfl h⟩, (fun y hy => by cases hy), HOG7.out.qt ((HQ1.out.trans HQ2.out).trans HQ3.out) (by omega)⟩
    obtain ⟨j, rfl⟩ : ∃ j : Nat, n = j := ⟨n.toNat, by omega⟩
    have hlt : j < ks.length := by omega
    obtain ⟨k, hk⟩ : ∃ k, ks[j]? = some k := ⟨_, List.getElem?_eq_getElem hlt⟩
    have hkk : kidL l (j : Int) = some k.flat := by
      unfold kidL
      rw [if_neg hn0, hdl', Int.toNat_natCast, List.getElem?_map, hk]; rfl
    have HKK := Lib.hid hkk
    rw [hkk]
    have hkd : k.flat.length ≤ 1000000 := by have := kid_lt (n := nd) (List.mem_of_getElem? hk); have := HFL.out; omega
    have HKJ := Lib.hid hk
    have HKD := Lib.hid hkd
    clear hkk hk hdl' hkd
    go_enter Try.func31, Try.ntmps31
    go_wp2_with (first
      | (refine armLd rfl 24 (.tmp 2) rfl w.heap.size rfl (cs := [.slice A l.length c]) HB0.out (.struct ts) HTS.out rfl (by kernel_rfl) ?_)
      | (go_at_call 42; refine HO.out.mono ?_; rintro e w2 ⟨q2, cs, h7, h1, rfl, hb⟩; (have hb := hb _ rfl); obtain ⟨KA, kc, avA, avc, cf, hcs, -, -, h5, hc, hK, -⟩ := hb.parts; obtain ⟨b, off, rfl, hr, hbk⟩ := hK j k HKJ.out; (have h7k := hbk.len); (have HR2 := Lib.hid hr); (have HBK := Lib.hid hbk); (have HONE := Lib.hid hbk.one); (have HQ2 := Lib.hid q2); (have HB2 := Lib.hid (HB1.out.qt q2)); (have HC5 := Lib.hid h5); clear q2 hb hcs h5 hK hc hr hbk; generalize cf j = ck at *)
      | (refine armSt rfl 60 (.tmp 6) (.tmp 11) rfl w2.heap.size cs rfl rfl (t := 60) (old := zBr) (heap_alloc_new w2 _) (by rw [h7]; kernel_rfl) (by rw [h7]; rfl) h1 ?_; intro w3 og3 hz3 hb3; (have c5 : w3.cell? ⟨w2.heap.size, 5, none⟩ = some (.slice (some ⟨b, off, none⟩) ks.length kc) := (hb3.cell 5).trans HC5.out); (have HQ3 := Lib.hid (show Qt w2 w3 from og3.qt ((Qt.refl w2).alloc _) (Nat.le_refl _))); (have HB3 := Lib.hid (HB2.out.qt HQ3.out)); (have HRG := Lib.hid (rangeQt HR2.out HQ3.out)); (have HC := Lib.hid (termB_any k ck _ w3 HKD.out ((HBK.out.bound).qt HQ3.out) (fun i hi => Nat.lt_of_lt_of_le hi.2 HQ3.out.size))); clear og3 hb3)
      | (refine armLm rfl 60 (.tmp 30) rfl b (off + j * 7) rfl HRG.out (.struct gs) HGS.out rfl (by rw [h7k]; kernel_rfl) ?_)
      | (go_at_call 54; refine HC.out.mono ?_; rintro e w5 ⟨A5, c5x, rfl, li5, q5⟩; (have HQ5 := Lib.hid q5); (have HL5 := Lib.hid li5); (have HB5 := Lib.hid (HB3.out.qt q5)); clear q5 li5)
      | (refine armSt rfl 24 (.tmp 4) (.tmp 32) rfl (w.heap.size + 1) [.slice A5 k.flat.length c5x] rfl rfl HB5.out (by kernel_rfl) rfl (by intro u hu; rw [List.mem_singleton.1 hu]; rfl) ?_; intro w7 og7 hz7 hb7; (have HB7 := Lib.hid hb7); (have HOG7 := Lib.hid og7); clear hb7 og7))
    refine bodyPost_ret (v := .tuple #[.agg #[.slice A5 k.flat.length c5x], .bool true]) (results_ct (cs := [.slice A5 k.flat.length c5x]) rfl _ _ (w.heap.size + 1) (.struct ts) rfl HB7.out _ rfl HTS.out rfl (by kernel_rfl)) rfl ?_
    have hlt2 := HB3.out.lt
    refine ⟨A5, c5x, k.flat, rfl, ?_, (fun y hy => by cases hy; rfl), HOG7.out.qt (((HQ1.out.trans HQ2.out).trans HQ3.out).trans HQ5.out) (by omega)⟩
    exact (HL5.out.move (w' := w7) fun i hi ho => HOG7.out.block i hi (fun e => by cases e; omega)).mono fun i hi => by rw [← hz7]; exact hi.2
end
end Go.Proofs.Ytipgpnkdgofdeaa.Tm
