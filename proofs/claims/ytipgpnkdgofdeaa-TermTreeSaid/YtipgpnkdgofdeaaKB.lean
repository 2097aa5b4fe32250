import Derived.Test.YtipgpnkdgofdeaaKA
/-! Kids, Kid; by hand. -/
namespace Go.Proofs.Ytipgpnkdgofdeaa.Tm
open Go.RowKit
set_option linter.unusedVariables false
set_option linter.unusedSimpArgs false

/-- Terms in a row of the call's own. -/
def TermsOwn (w : World) (base : Nat) (o : Value) (ls : List (List Nd)) : Prop :=
  ∃ xs : List Value, xs.length = ls.length ∧ (∀ x ∈ xs, x.oneCell' = true) ∧ OQ w base 1 o ls.length xs ∧ ∀ (i : Nat) (l : List Nd), ls[i]? = some l → ∃ B d, xs[i]? = some (.slice B l.length d) ∧ Lies w (fun b => b < w.heap.size ∧ some b ≠ o.ownBlock) (.slice B l.length d) l
theorem TermsOwn.start (w : World) (base : Nat) : TermsOwn w base (.slice none 0 0) [] := ⟨[], rfl, (fun _ h => by cases h), OQ.nil w base 1, (fun i l h => by cases h)⟩
theorem TermsOwn.qt {w w' : World} {base : Nat} {o : Value} {ls : List (List Nd)} (h : TermsOwn w base o ls) (q : Qt w w') : TermsOwn w' base o ls := by
  obtain ⟨xs, h1, h2, h3, h4⟩ := h
  refine ⟨xs, h1, h2, h3.below q, fun i l hl => ?_⟩
  obtain ⟨B, d, e, hli⟩ := h4 i l hl
  exact ⟨B, d, e, (hli.qt q).mono fun b hb => ⟨Nat.lt_of_lt_of_le hb.1 q.size, hb.2⟩⟩
theorem TermsOwn.slice {w : World} {base : Nat} {o : Value} {ls : List (List Nd)} (h : TermsOwn w base o ls) : ∃ a c, o = .slice a ls.length c := by
  obtain ⟨xs, h1, h2, h3, h4⟩ := h
  exact h3.slice
theorem TermsOwn.lt {w : World} {base : Nat} {o : Value} {ls : List (List Nd)} (h : TermsOwn w base o ls) : ∀ g, o.ownBlock = some g → base ≤ g ∧ g < w.heap.size := by
  obtain ⟨xs, h1, h2, h3, h4⟩ := h
  exact h3.lt
theorem TermsOwn.snoc {w w' : World} {base : Nat} {o o' : Value} {ls : List (List Nd)} {xs : List Value} {l : List Nd} {B : Option Addr} {d : Nat}
    (h1 : xs.length = ls.length) (h2 : ∀ x ∈ xs, x.oneCell' = true) (h4 : ∀ (i : Nat) (l : List Nd), ls[i]? = some l → ∃ B d, xs[i]? = some (.slice B l.length d) ∧ Lies w (fun b => b < w.heap.size ∧ some b ≠ o.ownBlock) (.slice B l.length d) l)
    (hb : Lies w (fun b => b < w.heap.size ∧ some b ≠ o.ownBlock) (.slice B l.length d) l)
    (ho : OQ w' base 1 o' (ls.length + 1) (xs ++ [.slice B l.length d])) (hg : w.grownBy w' o.ownBlock) (hr : o'.ownBlock = o.ownBlock ∨ ∃ g, o'.ownBlock = some g ∧ w.heap.size ≤ g) : TermsOwn w' base o' (ls ++ [l]) := by
  have mv : ∀ {v k}, Lies w (fun b => b < w.heap.size ∧ some b ≠ o.ownBlock) v k → Lies w' (fun b => b < w'.heap.size ∧ some b ≠ o'.ownBlock) v k := by
    intro v k hb
    refine (hb.move (w' := w') fun k hk ho => hg.block k hk ho.2).mono ?_
    rintro k ⟨hk, hn⟩
    refine ⟨Nat.lt_of_lt_of_le hk hg.size, ?_⟩
    rcases hr with e | ⟨g, e, hge⟩
    · rw [e]; exact hn
    · rw [e]; intro e'; cases e'; omega
  refine ⟨xs ++ [.slice B l.length d], by simp [h1], fun x hx => ?_, by simpa using ho, fun i k hk => ?_⟩
  · rcases List.mem_append.1 hx with hx | hx
    · exact h2 x hx
    · rw [List.mem_singleton.1 hx]; rfl
  · by_cases hi : i < ls.length
    · rw [List.getElem?_append_left hi] at hk
      obtain ⟨B', d', e, hb'⟩ := h4 i k hk
      exact ⟨B', d', by rw [List.getElem?_append_left (by omega)]; exact e, mv hb'⟩
    · rw [List.getElem?_append_right (by omega)] at hk
      have hi2 : i = ls.length := by
        have := (List.getElem?_eq_some_iff.1 hk).1
        simp at this; omega
      subst hi2
      obtain rfl : l = k := by simpa using hk
      exact ⟨B, d, by rw [List.getElem?_append_right (by omega), h1, Nat.sub_self]; rfl, mv hb⟩
theorem TermsOwn.terms {w : World} {base : Nat} {A : Option Addr} {c n : Nat} {ls : List (List Nd)} (h : TermsOwn w base (.slice A n c) ls) : TermsIn w A ls := by
  obtain ⟨xs, h1, h2, ⟨_, ⟨e, h0⟩ | ⟨g, off, cap, e, hb, hg, hn, hm, hc, hx⟩⟩, h4⟩ := h
  · intro i l hl
    have := List.length_eq_zero_iff.1 h0
    subst this
    cases hl
  · cases e
    intro i l hl
    obtain ⟨B, d, e, hli⟩ := h4 i l hl
    exact ⟨g, off, rfl, B, d, hx i _ e, hli.mono fun b hb => hb.1⟩
theorem infoTm : ∃ (i : TypeInfo) (z : Value), Try.prog.info? 24 = some i ∧ i.zero = some z ∧ i.size = 1 ∧ i.bytes = 24 ∧ z.cells.size = 1 := by
  obtain ⟨i0, hi0, hz0, hz1, hz2⟩ := info_parts (P := Try.prog) (e := 24) (z := .agg #[.slice none 0 0]) (size := 1) (bytes := 24) (by kernel_rfl)
  exact ⟨i0, _, hi0, hz0, hz1, hz2, rfl⟩
theorem rdTm {w : World} {t : TypeId} {g : Nat} {v : Value} (hg : g = w.heap.size := by first | rfl | simp) : Rd (w.alloc (.cells #[v] t)) (.slice (some ⟨g, 0, none⟩) 1 1) 1 [v] := by
  subst hg
  exact ⟨_, _, rfl, Nat.le_refl _, .inr ⟨_, _, rfl, fun j u hu => by rw [World.cell?_alloc_new, Nat.zero_add]; simpa using hu⟩⟩

def kidsL (l : List Nd) : List (List Nd) := match opn l with | none => [] | some t => t.kids.map Tr.flat
set_option maxRecDepth 100000 in
set_option maxHeartbeats 1000000 in
theorem kids_any (l : List Nd) (v : Value) (lb : Nat → Prop) (w : World) (hm : l.length ≤ 1000000) (h : Lies w lb v l) (hlb : ∀ k, lb k → k < w.heap.size) :
    Calls Try.prog 30 #[.agg #[v]] w fun e w' => ∃ A c, e = .returned (.slice A (kidsL l).length c) ∧ TermsIn w' A (kidsL l) ∧ Qt w w' := by
  obtain ⟨gs, hgs⟩ : ∃ fs, Try.prog.underlying 60 = some (.struct fs) := ⟨_, Try.underlying60⟩
  obtain ⟨ts, hts⟩ : ∃ fs, Try.prog.underlying 24 = some (.struct fs) := ⟨_, Try.underlying24⟩
  obtain ⟨i0, z0, hi0, hz0, hz1, hz2, hz3⟩ := infoTm
  obtain ⟨A, c, rfl⟩ := h.form
  have q1 : Qt w (w.alloc (.cells #[.slice A l.length c] 24)) := (Qt.refl w).alloc _
  have HO := Lib.hid (open_one l _ lb _ hm (h.qt q1) (fun k hk => Nat.lt_of_lt_of_le (hlb k hk) q1.size))
  have HQ1 := Lib.hid q1
  have HGS := Lib.hid hgs
  have HTS := Lib.hid hts
  have HI0 := Lib.hid hi0
  have HZ0 := Lib.hid hz0
  have HZ1 := Lib.hid hz1
  have HZ2 := Lib.hid hz2
  have HZ3 := Lib.hid hz3
  have HLB := Lib.hid (fun k hk => Nat.lt_of_lt_of_le (hlb k hk) q1.size)
  clear h hlb q1 hgs hts hi0 hz0 hz1 hz2 hz3
  have hdl : kidsL l = match opn l with | none => [] | some t => t.kids.map Tr.flat := rfl
  have HDL := Lib.hid hdl
  clear hdl
  have hflat : ∀ t, opn l = some t → t.flat.length ≤ 1000000 := fun t ht => by rw [← opn_flat ht]; exact hm
  have HFL := Lib.hid hflat
  clear hflat
  cases ho : opn l with
  | none =>
    rw [ho] at HO HDL
    clear ho
    go_enter Try.func30, Try.ntmps30
    go_wp2_with (first
      | (refine armLd rfl 24 (.tmp 1) rfl w.heap.size rfl (cs := [.slice A l.length c]) (heap_alloc_new w _) (.struct ts) HTS.out rfl (by kernel_rfl) ?_)
      | (go_at_call 42; refine HO.out.mono ?_; rintro e w2 ⟨q2, cs, h7, h1, rfl, hb⟩; (have HQ2 := Lib.hid q2); clear q2 hb)
      | (refine armSt rfl 60 (.tmp 3) (.tmp 11) rfl w2.heap.size cs rfl rfl (t := 60) (old := zBr) (heap_alloc_new w2 _) (by rw [h7]; kernel_rfl) (by rw [h7]; rfl) h1 ?_; intro w3 og3 hz3 hb3; (have HQ3 := Lib.hid (show Qt w2 w3 from og3.qt ((Qt.refl w2).alloc _) (Nat.le_refl _))); clear og3 hb3))
    go_ret
    rw [HDL.out]
    exact ⟨none, 0, rfl, (fun i l h => by cases h), (HQ1.out.trans HQ2.out).trans HQ3.out⟩
  | some t =>
    obtain ⟨n, ks⟩ := t
    rw [ho] at HO HDL
    have hfl := HFL.out _ ho
    have HFL := Lib.hid hfl
    clear ho hfl
    go_enter Try.func30, Try.ntmps30
    go_wp2_with (first
      | (refine armLd rfl 24 (.tmp 1) rfl w.heap.size rfl (cs := [.slice A l.length c]) (heap_alloc_new w _) (.struct ts) HTS.out rfl (by kernel_rfl) ?_)
      | (go_at_call 42; refine HO.out.mono ?_; rintro e w2 ⟨q2, cs, h7, h1, rfl, hb⟩; (have hb := hb _ rfl); obtain ⟨KA, kc, avA, avc, cf, hcs, -, -, h5, hc, hK, -⟩ := hb.parts; (have HK := Lib.hid hK); (have HQ2 := Lib.hid q2); (have HC5 := Lib.hid h5); clear q2 hb hcs h5 hK hc)
      | (refine armSt rfl 60 (.tmp 3) (.tmp 11) rfl w2.heap.size cs rfl rfl (t := 60) (old := zBr) (heap_alloc_new w2 _) (by rw [h7]; kernel_rfl) (by rw [h7]; rfl) h1 ?_; intro w3 og3 hz3 hb3; (have c5 : w3.cell? ⟨w2.heap.size, 5, none⟩ = some (.slice KA ks.length kc) := (hb3.cell 5).trans HC5.out); (have HQ3 := Lib.hid (show Qt w2 w3 from og3.qt ((Qt.refl w2).alloc _) (Nat.le_refl _))); clear og3 hb3))
    have hQ3 := (HQ1.out.trans HQ2.out).trans HQ3.out
    have hK3 := fun i k hk => (show ∃ b off, KA = some ⟨b, off, none⟩ ∧ w3.rangeAt b (off + i * 7) (cf i) ∧ Br w3 (fun k => k < w3.heap.size) (cf i) k by
      obtain ⟨b, off, e, h1, h2⟩ := HK.out i k hk
      exact ⟨b, off, e, rangeQt h1 HQ3.out, ((h2.bound.qt HQ3.out).mono fun k hk => Nat.lt_of_lt_of_le hk.2 HQ3.out.size)⟩)
    have HK3 := Lib.hid hK3
    have HQW := Lib.hid hQ3
    have hkl : ks.length ≤ 1000000 := by have := flats_len ks; have := HFL.out; simp [Tr.flat] at this; omega
    have hkid : ∀ k, k ∈ ks → k.flat.length ≤ 1000000 := fun k hk => by have := kid_lt (n := n) hk; have := HFL.out; omega
    have HKD := Lib.hid hkid
    clear hK3 hQ3 HK hkid HO
    go_loopw [18, 5] (fun i o wr => ∃ j : Nat, j ≤ ks.length ∧ i = .int .i64 j ∧ TermsOwn wr w3.heap.size o ((ks.take j).map Tr.flat) ∧ Qt w3 wr) (fun i _ _ => ks.length - (intOf i).toNat)
    case atStart => exact ⟨0, by omega, rfl, TermsOwn.start _ _, Qt.refl _⟩
    case round =>
      obtain ⟨j, hj, rfl, ho, hq⟩ := hrel
      have hlj : ((ks.take j).map Tr.flat).length = j := by rw [List.length_map, List.length_take]; omega
      obtain ⟨oa, oc, rfl⟩ := ho.slice
      rw [hlj] at ho ⊢
      have HOW := Lib.hid ho
      have HQ := Lib.hid hq
      clear ho hq c5
      by_cases hlt : j < ks.length
      · obtain ⟨k, hk⟩ : ∃ k, ks[j]? = some k := ⟨_, List.getElem?_eq_getElem hlt⟩
        obtain ⟨b, off, rfl, hr, hb⟩ := HK3.out j k hk
        have hkd := HKD.out k (List.mem_of_getElem? hk)
        have h7k := hb.len
        have HRG := Lib.hid (rangeQt hr HQ.out)
        have HBK := Lib.hid (hb.qt HQ.out)
        have HONE := Lib.hid hb.one
        have HTK := Lib.hid (take_next hk)
        clear hr hb hk
        generalize cf j = ck at *
        have hOW := HOW.out
        obtain ⟨xs, hx1, hx2, hx3, hx4⟩ := hOW
        rw [hlj] at hx1 hx3
        have HX1 := Lib.hid hx1
        have HX2 := Lib.hid hx2
        have HX3 := Lib.hid hx3
        have HX4 := Lib.hid hx4
        have HLJ := Lib.hid hlj
        have HKD2 := Lib.hid hkd
        clear hx1 hx2 hx3 hx4 hlj hkd
        go_wp2_with (first
          | (refine armLm rfl 60 (.tmp 20) rfl b (off + j * 7) rfl HRG.out (.struct gs) HGS.out rfl (by rw [h7k]; kernel_rfl) ?_)
          | (refine armSt rfl 60 (.tmp 7) (.tmp 21) rfl wr.heap.size ck rfl rfl (t := 60) (old := zBr) (heap_alloc_new wr _) (by rw [h7k]; kernel_rfl) (by rw [h7k]; rfl) HONE.out ?_; intro w4 og4 hz4 hb4; (have hq4 : Qt wr w4 := og4.qt ((Qt.refl wr).alloc _) (Nat.le_refl _)); (have HB4 := Lib.hid hb4); (have HQ4 := Lib.hid hq4); (have HC := Lib.hid (termB_any k ck _ w4 HKD2.out (HBK.out.qt hq4) (fun i hi => Nat.lt_of_lt_of_le hi (HQ.out.trans hq4).size))); clear og4 hb4 hq4)
          | (refine armLd rfl 60 (.tmp 7) rfl wr.heap.size rfl HB4.out (.struct gs) HGS.out rfl (by rw [h7k]; kernel_rfl) ?_)
          | (go_at_call 54; refine HC.out.mono ?_; rintro e w5 ⟨A5, c5, rfl, li5, q5⟩; (have HQ5 := Lib.hid q5); (have HL5 := Lib.hid li5); clear q5 li5)
          | (at_builtin; go_must (refine wp_appQ rfl (.tmp 22) (.tmp 25) 34 34 rfl w3.heap.size 24 i0 z0 1 24 (by kernel_rfl) HI0.out HZ0.out HZ1.out HZ2.out HZ3.out _ j xs rfl ((HX3.out.below (HQ4.out.trans HQ5.out)).alloc _) _ 1 [.slice A5 k.flat.length c5] rfl (Src.ofRd (e' := 24) (by kernel_rfl) rdTm rfl (by decide) (by intro u hu; rw [List.mem_singleton.1 hu]; rfl)) (by unfold maxLen; omega) (by omega) (by have := HQ.out.size; have := HQ4.out.size; have := HQ5.out.size; simp; omega) ?_); intro v6 w6 h6 g6 r6; (have HO6 := Lib.hid h6); (have HG6 := Lib.hid g6); (have HR6 := Lib.hid r6); clear h6 g6 r6))
        have hq6 : Qt w5 (w5.alloc (.cells #[.slice A5 k.flat.length c5] 24)) := (Qt.refl w5).alloc _
        have hq45 := HQ4.out.trans HQ5.out
        have hs4 : wr.heap.size + 1 = w4.heap.size := by rw [← hz4]; simp
        refine ⟨⟨j + 1, by omega, by go_num, ?_, ?_⟩, by simp [intOf]; omega⟩
        · rw [HTK.out, List.map_append]
          refine TermsOwn.snoc (w := w5.alloc (.cells #[.slice A5 k.flat.length c5] 24)) (o := .slice oa j oc) (HX1.out.trans HLJ.out.symm) HX2.out (fun i l hl => ?_) ?_ (by rw [HLJ.out]; exact HO6.out) HG6.out HR6.out
          · obtain ⟨B, d, e, hli⟩ := HX4.out i l hl
            exact ⟨B, d, e, (hli.qt (hq45.trans hq6)).mono fun b hb => ⟨Nat.lt_of_lt_of_le hb.1 (hq45.trans hq6).size, hb.2⟩⟩
          · refine (HL5.out.qt hq6).mono fun b hb => ⟨Nat.lt_of_lt_of_le hb.2 hq6.size, fun e => ?_⟩
            have := (HX3.out.lt b e.symm).2
            omega
        · refine below_app (base := w3.heap.size) ((HQ.out.trans hq45).trans hq6) ((HX3.out.below hq45).below hq6) HG6.out
      · obtain rfl : j = ks.length := by omega
        have hm2 := HOW.out
        rw [List.take_length] at hm2
        have HM := Lib.hid hm2
        clear hm2 hlj
        go_wp2
        go_ret
        have e : kidsL l = ks.map Tr.flat := HDL.out
        refine ⟨oa, oc, ?_, ?_, HQW.out.trans HQ.out⟩
        · rw [e, List.length_map]; rfl
        · rw [e]; exact HM.out.terms
end Go.Proofs.Ytipgpnkdgofdeaa.Tm
