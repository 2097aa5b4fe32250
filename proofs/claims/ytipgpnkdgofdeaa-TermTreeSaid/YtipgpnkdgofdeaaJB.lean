import Derived.Test.YtipgpnkdgofdeaaJA
/-! Terms that are joined, by hand. -/
namespace Go.Proofs.Ytipgpnkdgofdeaa.Tm
open Go.RowKit
set_option linter.unusedVariables false
set_option linter.unusedSimpArgs false

/-- Terms in a row. -/
def TermsIn (w : World) (A : Option Addr) (ls : List (List Nd)) : Prop := ∀ i l, ls[i]? = some l → ∃ b off, A = some ⟨b, off, none⟩ ∧ ∃ B d, w.cell? ⟨b, off + i, none⟩ = some (.slice B l.length d) ∧ Lies w (fun k => k < w.heap.size) (.slice B l.length d) l
theorem TermsIn.qt {w w' : World} {A : Option Addr} {ls : List (List Nd)} (h : TermsIn w A ls) (q : Qt w w') : TermsIn w' A ls := fun i l hl => by
  obtain ⟨b, off, rfl, B, d, hc, hli⟩ := h i l hl
  exact ⟨b, off, rfl, B, d, (q.cell (p := ⟨b, off + i, none⟩) (blk_of_cell hc)).trans hc, hli.up q⟩
def joinL (n : Nd) (ls : List (List Nd)) : List Nd := ⟨n.f0, n.f1, n.f2, n.f3, (ls.length : Int)⟩ :: ls.flatten
theorem flatten_take (ls : List (List Nd)) (j : Nat) (l : List Nd) (h : ls[j]? = some l) : (ls.take (j + 1)).flatten = (ls.take j).flatten ++ l := by
  rw [take_next h, List.flatten_append]; simp
theorem flatten_take_le (ls : List (List Nd)) (j : Nat) : (ls.take j).flatten.length ≤ ls.flatten.length := by
  have e := List.take_append_drop j ls
  have : ls.flatten.length = (ls.take j).flatten.length + (ls.drop j).flatten.length := by rw [← List.length_append, ← List.flatten_append, e]
  omega
theorem Lies.lt {w : World} {B : Nat} {v : Value} {l : List Nd} (h : Lies w (fun k => B ≤ k ∧ k < w.heap.size) v l) : Lies w (fun k => k < w.heap.size) v l := h.mono fun _ hk => hk.2
theorem OQ.lies {w : World} {base : Nat} {A : Option Addr} {c : Nat} {l : List Nd} (h : OQ w base 5 (.slice A l.length c) l.length (ndcs l)) : Lies w (fun k => base ≤ k ∧ k < w.heap.size) (.slice A l.length c) l := by
  obtain ⟨h1, ⟨h2, h0⟩ | ⟨g, off, cap, h2, hb, hg, hn, hm, hc, hx⟩⟩ := h
  · have : l = [] := List.length_eq_zero_iff.1 h0
    subst this
    cases h2
    exact ⟨_, _, rfl, Nat.le_refl _, fun h => absurd rfl h⟩
  · cases h2
    exact ⟨_, _, rfl, hn, fun _ => ⟨g, off, rfl, ⟨hb, hg⟩, hx⟩⟩
/-- A row of one node, of the call's own. -/
theorem oq1 (w : World) (n : Nd) (base : Nat) (hb : base ≤ w.heap.size) : OQ (w.alloc (.cells (ndc n).toArray 32)) base 5 (.slice (some ⟨w.heap.size, 0, none⟩) 1 1) 1 (ndcs [n]) := by
  refine ⟨rfl, .inr ⟨_, 0, 1, rfl, hb, by simp, Nat.le_refl _, by unfold maxLen; omega, fun j hj => ⟨?_, ?_⟩, fun j u hu => ?_⟩⟩
  · rw [Nat.zero_add, World.cell?_alloc_new, Array.getElem?_eq_getElem (by simpa [ndc] using hj)]; rfl
  · exact World.frozen?_alloc_new _ _ _ _
  · rw [Nat.zero_add, World.cell?_alloc_new]; simpa [ndcs] using hu

theorem armB1L {ops : Array Oper} {rest : List Oper} {o : Oper} {a : Act} {w : World} {Q : Exit → Act → World → Prop} (hgd : o.guard = none) (x : Operand) (ho : o.op = .buildSlice 22 1 #[(0, x)]) (n : Nd) (hx : a.eval x = .agg (ndc n).toArray) (base : Nat) (hb : base ≤ w.heap.size)
    (h : ∀ w' g, OQ w' base 5 (.slice (some ⟨g, 0, none⟩) 1 1) 1 (ndcs [n]) → Qt w w' → w.heap.size ≤ g → wpList Try.prog ops Q rest (a.put o.dst (.slice (some ⟨g, 0, none⟩) 1 1)) w') : wpList Try.prog ops Q (o :: rest) a w :=
  armB1 hgd x ho n hx (h _ _ (oq1 w n base hb) ((Qt.refl w).alloc _) (Nat.le_refl _))
set_option maxRecDepth 100000 in
set_option maxHeartbeats 1000000 in
theorem join_any (n : Nd) (ls : List (List Nd)) (A : Option Addr) (c : Nat) (w : World) (h1 : ls.length ≤ 1000) (h2 : ls.flatten.length ≤ 100000) (hA : TermsIn w A ls) :
    Calls Try.prog 19 #[.agg (ndc n).toArray, .slice A ls.length c] w fun e w' => ∃ A' c', e = .returned (.agg #[.slice A' (joinL n ls).length c']) ∧ Lies w' (fun k => w.heap.size ≤ k ∧ k < w'.heap.size) (.slice A' (joinL n ls).length c') (joinL n ls) ∧ Qt w w' := by
  obtain ⟨ts, hts⟩ : ∃ fs, Try.prog.underlying 24 = some (.struct fs) := ⟨_, Try.underlying24⟩
  obtain ⟨ns, hns⟩ : ∃ fs, Try.prog.underlying 32 = some (.struct fs) := ⟨_, Try.underlying32⟩
  obtain ⟨i0, z0, hi0, hz0, hz1, hz2, hz3⟩ := infoNd
  obtain ⟨nn, hnn⟩ : ∃ nn : Nd, nn = ⟨n.f0, n.f1, n.f2, n.f3, (ls.length : Int)⟩ := ⟨_, rfl⟩
  have hb2 : Blk ((w.alloc (.cells (ndc n).toArray 32)).alloc (.cells #[.slice none 0 0] 24)) w.heap.size 32 (ndc n) := (show Blk (w.alloc (.cells (ndc n).toArray 32)) _ _ (ndc n) from heap_alloc_new w _).alloc _
  have hb4 : Blk ((w.alloc (.cells (ndc n).toArray 32)).alloc (.cells #[.slice none 0 0] 24)) (w.heap.size + 1) 24 [.slice none 0 0] := by
    have h := heap_alloc_new (w.alloc (.cells (ndc n).toArray 32)) (.cells #[.slice none 0 0] 24)
    rw [show (w.alloc (.cells (ndc n).toArray 32)).heap.size = w.heap.size + 1 from by simp] at h
    exact h
  have hq1 : Qt w ((w.alloc (.cells (ndc n).toArray 32)).alloc (.cells #[.slice none 0 0] 24)) := ((Qt.refl w).alloc _).alloc _
  have c4 := (hb2.cell 4).trans (show (ndc n)[4]? = some (.int .i64 n.f4) from rfl)
  have f4 := hb2.frozen 4
  have HTS := Lib.hid hts
  have HNS := Lib.hid hns
  have HI0 := Lib.hid hi0
  have HZ0 := Lib.hid hz0
  have HZ1 := Lib.hid hz1
  have HZ2 := Lib.hid hz2
  have HZ3 := Lib.hid hz3
  have hb2' : Blk ((w.alloc (.cells ((ndc n).set 4 (.int .i64 (ls.length : Int))).toArray 32)).alloc (.cells #[.slice none 0 0] 24)) w.heap.size 32 (ndc nn) := by
    have h := (show Blk (w.alloc (.cells ((ndc n).set 4 (.int .i64 (ls.length : Int))).toArray 32)) _ _ ((ndc n).set 4 (.int .i64 (ls.length : Int))) from heap_alloc_new w _).alloc (.cells #[.slice none 0 0] 24)
    rw [hnn]; exact h
  have hb4' : Blk ((w.alloc (.cells ((ndc n).set 4 (.int .i64 (ls.length : Int))).toArray 32)).alloc (.cells #[.slice none 0 0] 24)) (w.heap.size + 1) 24 [.slice none 0 0] := by
    have h := heap_alloc_new (w.alloc (.cells ((ndc n).set 4 (.int .i64 (ls.length : Int))).toArray 32)) (.cells #[.slice none 0 0] 24)
    rw [show (w.alloc (.cells ((ndc n).set 4 (.int .i64 (ls.length : Int))).toArray 32)).heap.size = w.heap.size + 1 from by simp] at h
    exact h
  have HB2 := Lib.hid hb2'
  have HB4 := Lib.hid hb4'
  have HQ1 := Lib.hid (show Qt w ((w.alloc (.cells ((ndc n).set 4 (.int .i64 (ls.length : Int))).toArray 32)).alloc (.cells #[.slice none 0 0] 24)) from ((Qt.refl w).alloc _).alloc _)
  have HA := Lib.hid hA
  have HNN := Lib.hid hnn
  clear hts hns hi0 hz0 hz1 hz2 hz3 hb2 hb4 hq1 hA hnn hb2' hb4'
  go_enter Try.func19, Try.ntmps19
  go_wp2_with (first
    | (refine armLd rfl 32 (.tmp 2) rfl w.heap.size rfl (cs := ndc nn) HB2.out (.struct ns) HNS.out rfl (by kernel_rfl) ?_)
    | (refine armB1L rfl (.tmp 11) rfl nn rfl (w.heap.size + 2) (by simp) ?_; intro w2 g ho hq hg; (have HO := Lib.hid ho); (have HB := Lib.hid (HB4.out.qt hq)); (have HQ := Lib.hid (HQ1.out.trans hq)); clear ho hq))
  go_loopw [15, 5] (fun i r wr => ∃ (j : Nat) (m : Nat), j ≤ ls.length ∧ i = .int .i64 j ∧ m = 1 + (ls.take j).flatten.length ∧ OQ wr (w.heap.size + 2) 5 r m (ndcs (nn :: (ls.take j).flatten)) ∧ Blk wr (w.heap.size + 1) 24 [.slice none 0 0] ∧ Qt w wr) (fun i _ _ => ls.length - (intOf i).toNat)
  case atStart => exact ⟨0, 1, by omega, rfl, rfl, HO.out, HB.out, HQ.out⟩
  case round =>
    obtain ⟨j, m, hj, rfl, hm, ho, hb, hq⟩ := hrel
    obtain ⟨ra, rc, rfl⟩ := ho.slice
    have hfl := flatten_take_le ls j
    have HO2 := Lib.hid ho
    have HBB := Lib.hid hb
    have HQQ := Lib.hid hq
    have HM := Lib.hid hm
    have hm1 : m ≤ 1 + (ls.take j).flatten.length := by omega
    clear ho hb HO HB HQ hm
    by_cases hlt : j < ls.length
    · obtain ⟨l, hl⟩ : ∃ l, ls[j]? = some l := ⟨_, List.getElem?_eq_getElem hlt⟩
      obtain ⟨b, off, rfl, B, d, hc, hli⟩ := (HA.out.qt hq) j l hl
      have HFT := Lib.hid (flatten_take ls j l hl)
      have hfl2 := flatten_take_le ls (j + 1)
      rw [HFT.out, List.length_append] at hfl2
      have hrg : wr.rangeAt b (off + j) [.slice B l.length d] := fun i u hu => by
        match i, hu with
        | 0, hu => cases hu; exact hc
      have HRG := Lib.hid hrg
      have HLI := Lib.hid hli
      clear hc hli hrg hq
      go_wp2_with (first
        | (refine armLm rfl 24 (.tmp 17) rfl b (off + j) rfl HRG.out (.struct ts) HTS.out rfl (by kernel_rfl) ?_)
        | (refine armSt rfl 24 (.tmp 7) (.tmp 18) rfl wr.heap.size [.slice B l.length d] rfl rfl (t := 24) (old := [.slice none 0 0]) (heap_alloc_new wr _) (by kernel_rfl) rfl (by intro u hu; rw [List.mem_singleton.1 hu]; rfl) ?_; intro w3 og3 hz3 hb3; (have q3 : Qt wr w3 := og3.qt ((Qt.refl wr).alloc _) (Nat.le_refl _)); (have c7 : w3.cell? ⟨wr.heap.size, 0, none⟩ = some (.slice B l.length d) := hb3.cell 0); (have HQ3 := Lib.hid q3); clear og3 hb3 q3)
        | (at_builtin; go_must (refine wp_appQ rfl (.tmp 19) (.tmp 21) 22 22 rfl (w.heap.size + 2) 32 i0 z0 5 48 (by kernel_rfl) HI0.out HZ0.out HZ1.out HZ2.out HZ3.out _ m _ rfl (HO2.out.below HQ3.out) _ l.length (ndcs l) rfl (Src.ofRd (e' := 32) (by kernel_rfl) (HLI.out.up HQ3.out).rd (ndcs_len l) (by decide) (ndcs_one l)) (by unfold maxLen; omega) (by omega) (by have := HQ3.out.size; have := HBB.out.lt; omega) ?_); intro v5 w5 h5 g5 r5; (have HO5 := Lib.hid h5); (have HG5 := Lib.hid g5); (have HB5 := Lib.hid ((HBB.out.qt HQ3.out).grown g5 (fun e => by have := (HO2.out.lt _ e.symm).1; omega))); clear h5 g5 r5))
      go_roundw
      case rel =>
        have hb5 : Qt w w5 := Below.trans (HQQ.out.trans HQ3.out) ⟨HG5.out.os, HG5.out.tape, HG5.out.output, HG5.out.size, fun k hk => HG5.out.block k (by have := HQQ.out.size; have := HQ3.out.size; omega) (fun e => by have := (HO2.out.lt k e.symm).1; omega)⟩
        refine ⟨j + 1, m + l.length, by omega, by go_num, by rw [HFT.out, List.length_append, HM.out]; omega, ?_, HB5.out, hb5⟩
        have h := HO5.out
        rw [← ndcs_app] at h
        rw [HFT.out]
        exact h
      case measure => simp [intOf]; omega
    · obtain rfl : j = ls.length := by omega
      have hm := HM.out
      rw [List.take_length] at hm hfl
      have HO3 := Lib.hid (show OQ wr (w.heap.size + 2) 5 (.slice ra m rc) m (ndcs (nn :: ls.flatten)) by have := HO2.out; rwa [List.take_length] at this)
      have hml : m = (joinL n ls).length := by rw [hm]; simp [joinL]; omega
      have HML := Lib.hid hml
      clear HO2 hml hm
      go_wp2_with (first
        | (refine armSt rfl 24 (.tmp 4) (.tmp 25) rfl (w.heap.size + 1) [.slice ra m rc] rfl rfl HBB.out (by kernel_rfl) rfl (by intro u hu; rw [List.mem_singleton.1 hu]; rfl) ?_; intro w7 og7 hz7 hb7; (have HB7 := Lib.hid hb7); (have HOG7 := Lib.hid og7); clear hb7 og7))
      refine bodyPost_ret (v := .agg #[.slice ra m rc]) (results_c1 (cs := [.slice ra m rc]) rfl _ _ (w.heap.size + 1) (.struct ts) rfl HB7.out HTS.out rfl (by kernel_rfl)) rfl ?_
      have ho7 : OQ w7 (w.heap.size + 2) 5 (.slice ra m rc) m (ndcs (nn :: ls.flatten)) := HO3.out.grown HOG7.out (.inr (fun e => by have := (HO3.out.lt _ e.symm).1; omega))
      have e2 : nn :: ls.flatten = joinL n ls := by rw [HNN.out]; rfl
      rw [e2, HML.out] at ho7
      rw [HML.out]
      exact ⟨ra, rc, rfl, (OQ.lies ho7).mono (fun i hi => ⟨by omega, hi.2⟩), HOG7.out.qt HQQ.out (by omega)⟩
end Go.Proofs.Ytipgpnkdgofdeaa.Tm
