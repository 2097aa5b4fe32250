import Derived.Test.YtipgpnkdgofdeaaTL
/-! Deep, Order, Same, Fits, printed by gentops.py. -/
namespace Go.Proofs.Ytipgpnkdgofdeaa.Tm
open Go.RowKit Go.Proofs.Ytipgpnkdgofdeaa.Fl
set_option linter.unusedVariables false
set_option linter.unusedSimpArgs false

def deepL (l : List Nd) : Nat := match opn l with | none => 0 | some t => dep t
def ordL (a b : List Nd) : Int := match opn a, opn b with | some t, some u => ord t u | some _, none => 1 | none, some _ => -1 | none, none => 0
def sameL (a b : List Nd) : Bool := match opn a, opn b with | some t, some u => ord t u == 0 | _, _ => false
def fitsL (l : List Nd) (most deep : Int) : Bool := decide ((l.length : Int) ≤ most) && (match opn l with | none => false | some t => decide ((dep t : Int) ≤ deep) && rightT t)
theorem opn_flat {l : List Nd} {t : Tr} (h : opn l = some t) : l = t.flat := by
  unfold opn at h
  obtain ⟨⟨u, r⟩, h1, h2⟩ := Option.bind_eq_some_iff.1 h
  have h3 := par_flat _ _ _ _ h1
  simp only at h2
  split at h2
  · rename_i hr
    cases h2
    rw [h3, hr, List.append_nil]
  · cases h2

/-- What open tells, as one value. -/
theorem open_one (l : List Nd) (v : Value) (lb : Nat → Prop) (w : World) (hm : l.length ≤ 1000000) (h : Lies w lb v l) (hlb : ∀ k, lb k → k < w.heap.size) :
    Calls Try.prog 42 #[.agg #[v]] w fun e w' => Qt w w' ∧ ∃ cs : List Value, cs.length = 7 ∧ (∀ u ∈ cs, u.oneCell' = true) ∧ e = .returned (.tuple #[.agg cs.toArray, .bool (opn l).isSome]) ∧ ∀ t, opn l = some t → Br w' (fun k => lb k ∨ w.heap.size ≤ k) cs t :=
  (open_any l v lb w hm h hlb).mono fun e w' ⟨q, ho⟩ => ⟨q, by
    rcases ho with ⟨hn, cs, h7, h1, rfl⟩ | ⟨t, cs, hs, rfl, hb⟩
    · exact ⟨cs, h7, h1, by rw [hn]; rfl, fun t ht => by rw [hn] at ht; cases ht⟩
    · exact ⟨cs, hb.len, hb.one, by rw [hs]; rfl, fun t ht => by rw [hs] at ht; cases ht; exact hb⟩⟩

section
variable (l : List Nd) (v : Value) (lb : Nat → Prop) (w : World) (hm : l.length ≤ 1000000) (h : Lies w lb v l) (hlb : ∀ k, lb k → k < w.heap.size)
include hm h hlb
set_option maxHeartbeats 1000000 in
theorem Deep_any : Calls Try.prog 17 #[.agg #[v]] w fun e w' => e = .returned (.int .i64 (deepL l : Int)) ∧ Qt w w' := by
  obtain ⟨gs, hgs⟩ : ∃ fs, Try.prog.underlying 60 = some (.struct fs) := ⟨_, Try.underlying60⟩
  obtain ⟨ts, hts⟩ : ∃ fs, Try.prog.underlying 24 = some (.struct fs) := ⟨_, Try.underlying24⟩
  obtain ⟨A, c, rfl⟩ := h.form
  have q1 : Qt w (w.alloc (.cells #[.slice A l.length c] 24)) := (Qt.refl w).alloc _
  have HO := Lib.hid (open_one l _ lb _ hm (h.qt q1) (fun k hk => Nat.lt_of_lt_of_le (hlb k hk) q1.size))
  have HQ1 := Lib.hid q1
  have HGS := Lib.hid hgs
  have HTS := Lib.hid hts
  clear h hlb q1 hgs hts
  have hdl : deepL l = match opn l with | none => 0 | some t => dep t := rfl
  have HDL := Lib.hid hdl
  clear hdl
  have hflat : ∀ t, opn l = some t → t.flat.length ≤ 1000000 := fun t ht => by rw [← opn_flat ht]; exact hm
  have HFL := Lib.hid hflat
  clear hflat
  cases ho : opn l with
  | none =>
    rw [ho] at HO HDL
    clear ho
    go_enter Try.func17, Try.ntmps17
    go_wp2_with (first
      | (refine armLd rfl 24 (.tmp 1) rfl w.heap.size rfl (cs := [.slice A l.length c]) (heap_alloc_new w _) (.struct ts) HTS.out rfl (by kernel_rfl) ?_)
      | (go_at_call 42; refine HO.out.mono ?_; rintro e w2 ⟨q2, cs, h7, h1, rfl, hb⟩; (have HQ2 := Lib.hid q2); clear q2 hb)
      | (refine armSt rfl 60 (.tmp 3) (.tmp 8) rfl w2.heap.size cs rfl rfl (t := 60) (old := zBr) (heap_alloc_new w2 _) (by rw [h7]; kernel_rfl) (by rw [h7]; rfl) h1 ?_; intro w3 og3 hz3 hb3; (have HQ3 := Lib.hid (show Qt w2 w3 from og3.qt ((Qt.refl w2).alloc _) (Nat.le_refl _))); clear og3 hb3))
    go_ret
    exact ⟨by rw [HDL.out]; rfl, (HQ1.out.trans HQ2.out).trans HQ3.out⟩
  | some t =>
    have hfl := HFL.out t ho
    rw [ho] at HO HDL
    clear ho
    go_enter Try.func17, Try.ntmps17
    go_wp2_with (first
      | (refine armLd rfl 24 (.tmp 1) rfl w.heap.size rfl (cs := [.slice A l.length c]) (heap_alloc_new w _) (.struct ts) HTS.out rfl (by kernel_rfl) ?_)
      | (go_at_call 42; refine HO.out.mono ?_; rintro e w2 ⟨q2, cs, h7, h1, rfl, hb⟩; (have HQ2 := Lib.hid q2); (have HBR := Lib.hid (hb t rfl)); clear q2 hb)
      | (refine armSt rfl 60 (.tmp 3) (.tmp 8) rfl w2.heap.size cs rfl rfl (t := 60) (old := zBr) (heap_alloc_new w2 _) (by rw [h7]; kernel_rfl) (by rw [h7]; rfl) h1 ?_; intro w3 og3 hz3 hb3; (have q3 : Qt w2 w3 := og3.qt ((Qt.refl w2).alloc _) (Nat.le_refl _)); (have HQ3 := Lib.hid q3); (have HB3 := Lib.hid hb3); (have HC := Lib.hid (deep_any _ t cs _ w3 (Nat.le_refl _) hfl (HBR.out.qt q3))); clear og3 hb3 q3)
      | (refine armLd rfl 60 (.tmp 3) rfl w2.heap.size rfl HB3.out (.struct gs) HGS.out rfl (by rw [h7]; kernel_rfl) ?_)
      | (go_at_call 45; refine HC.out.mono ?_; rintro e w4 ⟨rfl, q4⟩; (have HQ4 := Lib.hid q4); clear q4))
    go_ret
    exact ⟨by rw [HDL.out]; rfl, ((HQ1.out.trans HQ2.out).trans HQ3.out).trans HQ4.out⟩
end
set_option maxRecDepth 100000 in
set_option maxHeartbeats 1000000 in
theorem Order_any (l m : List Nd) (v u : Value) (lb mb : Nat → Prop) (w : World) (hl : l.length ≤ 1000000) (hm : m.length ≤ 1000000) (h : Lies w lb v l) (h' : Lies w mb u m) (hlb : ∀ k, lb k → k < w.heap.size) (hmb : ∀ k, mb k → k < w.heap.size) :
    Calls Try.prog 14 #[.agg #[v], .agg #[u]] w fun e w' => e = .returned (.int .i64 (ordL l m)) ∧ Qt w w' := by
  obtain ⟨gs, hgs⟩ : ∃ fs, Try.prog.underlying 60 = some (.struct fs) := ⟨_, Try.underlying60⟩
  obtain ⟨ts, hts⟩ : ∃ fs, Try.prog.underlying 24 = some (.struct fs) := ⟨_, Try.underlying24⟩
  obtain ⟨A, c, rfl⟩ := h.form
  obtain ⟨B, d, rfl⟩ := h'.form
  obtain ⟨w1, hw1⟩ : ∃ w1, w1 = (w.alloc (.cells #[.slice A l.length c] 24)).alloc (.cells #[.slice B m.length d] 24) := ⟨_, rfl⟩
  have q1 : Qt w w1 := by rw [hw1]; exact ((Qt.refl w).alloc _).alloc _
  have b2 : Blk w1 w.heap.size 24 [.slice A l.length c] := by rw [hw1]; exact (show Blk (w.alloc (.cells #[.slice A l.length c] 24)) _ _ _ from heap_alloc_new w _).alloc _
  have b3 : Blk w1 (w.heap.size + 1) 24 [.slice B m.length d] := by
    have h := heap_alloc_new (w.alloc (.cells #[.slice A l.length c] 24)) (.cells #[.slice B m.length d] 24)
    rw [show (w.alloc (.cells #[.slice A l.length c] 24)).heap.size = w.heap.size + 1 from by simp] at h
    rw [hw1]; exact h
  have HO := Lib.hid (open_one l _ lb w1 hl (h.qt q1) (fun k hk => Nat.lt_of_lt_of_le (hlb k hk) q1.size))
  have HP := Lib.hid (fun w' (q : Qt w w') => open_one m _ mb w' hm (h'.qt q) (fun k hk => Nat.lt_of_lt_of_le (hmb k hk) q.size))
  have HQ1 := Lib.hid q1
  have HB2 := Lib.hid b2
  have HB3 := Lib.hid b3
  have HGS := Lib.hid hgs
  have HTS := Lib.hid hts
  have HFL := Lib.hid (fun t (ht : opn l = some t) => (show t.flat.length ≤ 1000000 by rw [← opn_flat ht]; exact hl))
  have HFM := Lib.hid (fun t (ht : opn m = some t) => (show t.flat.length ≤ 1000000 by rw [← opn_flat ht]; exact hm))
  have hdl : ordL l m = (match opn l, opn m with | some t, some u => ord t u | some _, none => 1 | none, some _ => -1 | none, none => 0) := rfl
  have HDL := Lib.hid hdl
  clear h h' hlb hmb q1 b2 b3 hgs hts hdl
  subst hw1
  rcases ho : opn l with _ | t <;> rcases hp : opn m with _ | x
  · skip
    rw [ho] at HO HDL
    rw [hp] at HP HDL
    clear ho hp
    go_enter Try.func14, Try.ntmps14
    go_wp2_with (first
      | (refine armLd rfl 24 (.tmp 2) rfl w.heap.size rfl HB2.out (.struct ts) HTS.out rfl (by kernel_rfl) ?_)
      | (refine armSt rfl 60 (.tmp 5) (.tmp 12) rfl w2.heap.size cs rfl rfl (t := 60) (old := zBr) (heap_alloc_new w2 _) (by rw [h7]; kernel_rfl) (by rw [h7]; rfl) h1 ?_; intro w3 og3 hz3 hb3; (have q23 : Qt w2 w3 := og3.qt ((Qt.refl w2).alloc _) (Nat.le_refl _)); (have q13 := HQ2.out.trans q23); (have q03 := HQ1.out.trans q13); (have HB33 := Lib.hid (HB3.out.qt q13)); (have HBA3 := Lib.hid hb3); (have HQ3 := Lib.hid q03); (have HQ23 := Lib.hid q23); (have HP3 := Lib.hid (HP.out w3 q03)); clear og3 hb3 q23 q13 q03)
      | (refine armLd rfl 24 (.tmp 3) rfl (w.heap.size + 1) rfl HB33.out (.struct ts) HTS.out rfl (by kernel_rfl) ?_)
      | (refine armSt rfl 60 (.tmp 7) (.tmp 17) rfl w4.heap.size ds rfl rfl (t := 60) (old := zBr) (heap_alloc_new w4 _) (by rw [i7]; kernel_rfl) (by rw [i7]; rfl) i1 ?_; intro w5 og5 hz5 hb5; (have q45 : Qt w4 w5 := og5.qt ((Qt.refl w4).alloc _) (Nat.le_refl _)); (have q35 := HQ4.out.trans q45); (have HBA5 := Lib.hid (HBA3.out.qt q35)); (have HBB5 := Lib.hid hb5); (have HQ5 := Lib.hid (HQ3.out.trans q35)); (have HQ45 := Lib.hid q45); (have HQ35 := Lib.hid q35); clear og5 hb5 q45 q35)
      | (first
          | (go_at_call 42; refine HP3.out.mono ?_; rintro e w4 ⟨q4, ds, i7, i1, rfl, hd⟩; (have HQ4 := Lib.hid q4); (have HD := Lib.hid hd); clear q4 hd)
          | (go_at_call 42; refine HO.out.mono ?_; rintro e w2 ⟨q2, cs, h7, h1, rfl, hb⟩; (have HQ2 := Lib.hid q2); (have HB := Lib.hid hb); clear q2 hb)))
    go_ret
    exact ⟨by rw [HDL.out]; rfl, HQ5.out⟩
  · skip
    rw [ho] at HO HDL
    rw [hp] at HP HDL
    clear ho hp
    go_enter Try.func14, Try.ntmps14
    go_wp2_with (first
      | (refine armLd rfl 24 (.tmp 2) rfl w.heap.size rfl HB2.out (.struct ts) HTS.out rfl (by kernel_rfl) ?_)
      | (refine armSt rfl 60 (.tmp 5) (.tmp 12) rfl w2.heap.size cs rfl rfl (t := 60) (old := zBr) (heap_alloc_new w2 _) (by rw [h7]; kernel_rfl) (by rw [h7]; rfl) h1 ?_; intro w3 og3 hz3 hb3; (have q23 : Qt w2 w3 := og3.qt ((Qt.refl w2).alloc _) (Nat.le_refl _)); (have q13 := HQ2.out.trans q23); (have q03 := HQ1.out.trans q13); (have HB33 := Lib.hid (HB3.out.qt q13)); (have HBA3 := Lib.hid hb3); (have HQ3 := Lib.hid q03); (have HQ23 := Lib.hid q23); (have HP3 := Lib.hid (HP.out w3 q03)); clear og3 hb3 q23 q13 q03)
      | (refine armLd rfl 24 (.tmp 3) rfl (w.heap.size + 1) rfl HB33.out (.struct ts) HTS.out rfl (by kernel_rfl) ?_)
      | (refine armSt rfl 60 (.tmp 7) (.tmp 17) rfl w4.heap.size ds rfl rfl (t := 60) (old := zBr) (heap_alloc_new w4 _) (by rw [i7]; kernel_rfl) (by rw [i7]; rfl) i1 ?_; intro w5 og5 hz5 hb5; (have q45 : Qt w4 w5 := og5.qt ((Qt.refl w4).alloc _) (Nat.le_refl _)); (have q35 := HQ4.out.trans q45); (have HBA5 := Lib.hid (HBA3.out.qt q35)); (have HBB5 := Lib.hid hb5); (have HQ5 := Lib.hid (HQ3.out.trans q35)); (have HQ45 := Lib.hid q45); (have HQ35 := Lib.hid q35); clear og5 hb5 q45 q35)
      | (first
          | (go_at_call 42; refine HP3.out.mono ?_; rintro e w4 ⟨q4, ds, i7, i1, rfl, hd⟩; (have HQ4 := Lib.hid q4); (have HD := Lib.hid hd); clear q4 hd)
          | (go_at_call 42; refine HO.out.mono ?_; rintro e w2 ⟨q2, cs, h7, h1, rfl, hb⟩; (have HQ2 := Lib.hid q2); (have HB := Lib.hid hb); clear q2 hb)))
    go_ret
    exact ⟨by rw [HDL.out]; rfl, HQ5.out⟩
  · skip
    rw [ho] at HO HDL
    rw [hp] at HP HDL
    clear ho hp
    go_enter Try.func14, Try.ntmps14
    go_wp2_with (first
      | (refine armLd rfl 24 (.tmp 2) rfl w.heap.size rfl HB2.out (.struct ts) HTS.out rfl (by kernel_rfl) ?_)
      | (refine armSt rfl 60 (.tmp 5) (.tmp 12) rfl w2.heap.size cs rfl rfl (t := 60) (old := zBr) (heap_alloc_new w2 _) (by rw [h7]; kernel_rfl) (by rw [h7]; rfl) h1 ?_; intro w3 og3 hz3 hb3; (have q23 : Qt w2 w3 := og3.qt ((Qt.refl w2).alloc _) (Nat.le_refl _)); (have q13 := HQ2.out.trans q23); (have q03 := HQ1.out.trans q13); (have HB33 := Lib.hid (HB3.out.qt q13)); (have HBA3 := Lib.hid hb3); (have HQ3 := Lib.hid q03); (have HQ23 := Lib.hid q23); (have HP3 := Lib.hid (HP.out w3 q03)); clear og3 hb3 q23 q13 q03)
      | (refine armLd rfl 24 (.tmp 3) rfl (w.heap.size + 1) rfl HB33.out (.struct ts) HTS.out rfl (by kernel_rfl) ?_)
      | (refine armSt rfl 60 (.tmp 7) (.tmp 17) rfl w4.heap.size ds rfl rfl (t := 60) (old := zBr) (heap_alloc_new w4 _) (by rw [i7]; kernel_rfl) (by rw [i7]; rfl) i1 ?_; intro w5 og5 hz5 hb5; (have q45 : Qt w4 w5 := og5.qt ((Qt.refl w4).alloc _) (Nat.le_refl _)); (have q35 := HQ4.out.trans q45); (have HBA5 := Lib.hid (HBA3.out.qt q35)); (have HBB5 := Lib.hid hb5); (have HQ5 := Lib.hid (HQ3.out.trans q35)); (have HQ45 := Lib.hid q45); (have HQ35 := Lib.hid q35); clear og5 hb5 q45 q35)
      | (first
          | (go_at_call 42; refine HP3.out.mono ?_; rintro e w4 ⟨q4, ds, i7, i1, rfl, hd⟩; (have HQ4 := Lib.hid q4); (have HD := Lib.hid hd); clear q4 hd)
          | (go_at_call 42; refine HO.out.mono ?_; rintro e w2 ⟨q2, cs, h7, h1, rfl, hb⟩; (have HQ2 := Lib.hid q2); (have HB := Lib.hid hb); clear q2 hb)))
    go_ret
    exact ⟨by rw [HDL.out]; rfl, HQ5.out⟩
  · skip
    have hft := HFL.out t ho
    have hfx := HFM.out x hp
    rw [ho] at HO HDL
    rw [hp] at HP HDL
    clear ho hp
    go_enter Try.func14, Try.ntmps14
    go_wp2_with (first
      | (refine armLd rfl 24 (.tmp 2) rfl w.heap.size rfl HB2.out (.struct ts) HTS.out rfl (by kernel_rfl) ?_)
      | (refine armSt rfl 60 (.tmp 5) (.tmp 12) rfl w2.heap.size cs rfl rfl (t := 60) (old := zBr) (heap_alloc_new w2 _) (by rw [h7]; kernel_rfl) (by rw [h7]; rfl) h1 ?_; intro w3 og3 hz3 hb3; (have q23 : Qt w2 w3 := og3.qt ((Qt.refl w2).alloc _) (Nat.le_refl _)); (have q13 := HQ2.out.trans q23); (have q03 := HQ1.out.trans q13); (have HB33 := Lib.hid (HB3.out.qt q13)); (have HBA3 := Lib.hid hb3); (have HQ3 := Lib.hid q03); (have HQ23 := Lib.hid q23); (have HP3 := Lib.hid (HP.out w3 q03)); clear og3 hb3 q23 q13 q03)
      | (refine armLd rfl 24 (.tmp 3) rfl (w.heap.size + 1) rfl HB33.out (.struct ts) HTS.out rfl (by kernel_rfl) ?_)
      | (refine armSt rfl 60 (.tmp 7) (.tmp 17) rfl w4.heap.size ds rfl rfl (t := 60) (old := zBr) (heap_alloc_new w4 _) (by rw [i7]; kernel_rfl) (by rw [i7]; rfl) i1 ?_; intro w5 og5 hz5 hb5; (have q45 : Qt w4 w5 := og5.qt ((Qt.refl w4).alloc _) (Nat.le_refl _)); (have q35 := HQ4.out.trans q45); (have HBA5 := Lib.hid (HBA3.out.qt q35)); (have HBB5 := Lib.hid hb5); (have HQ5 := Lib.hid (HQ3.out.trans q35)); (have HQ45 := Lib.hid q45); (have HQ35 := Lib.hid q35); (have HC := Lib.hid (order_any _ t x cs ds _ _ w5 (Nat.le_refl _) hft hfx ((HB.out t rfl).qt (HQ23.out.trans HQ35.out)) ((HD.out x rfl).qt HQ45.out))); clear og5 hb5 q45 q35)
      | (first
          | (go_at_call 42; refine HP3.out.mono ?_; rintro e w4 ⟨q4, ds, i7, i1, rfl, hd⟩; (have HQ4 := Lib.hid q4); (have HD := Lib.hid hd); clear q4 hd)
          | (go_at_call 42; refine HO.out.mono ?_; rintro e w2 ⟨q2, cs, h7, h1, rfl, hb⟩; (have HQ2 := Lib.hid q2); (have HB := Lib.hid hb); clear q2 hb))
      | (refine armLd rfl 60 (.tmp 5) rfl w2.heap.size rfl HBA5.out (.struct gs) HGS.out rfl (by rw [h7]; kernel_rfl) ?_)
      | (refine armLd rfl 60 (.tmp 7) rfl w4.heap.size rfl HBB5.out (.struct gs) HGS.out rfl (by rw [i7]; kernel_rfl) ?_)
      | (go_at_call 43; refine HC.out.mono ?_; rintro e w6 ⟨rfl, q6⟩; (have HQ6 := Lib.hid q6); clear q6))
    go_ret
    exact ⟨by rw [HDL.out]; rfl, HQ5.out.trans HQ6.out⟩

set_option maxRecDepth 100000 in
set_option maxHeartbeats 1000000 in
theorem Same_any (l m : List Nd) (v u : Value) (lb mb : Nat → Prop) (w : World) (hl : l.length ≤ 1000000) (hm : m.length ≤ 1000000) (h : Lies w lb v l) (h' : Lies w mb u m) (hlb : ∀ k, lb k → k < w.heap.size) (hmb : ∀ k, mb k → k < w.heap.size) :
    Calls Try.prog 18 #[.agg #[v], .agg #[u]] w fun e w' => e = .returned (.bool (sameL l m)) ∧ Qt w w' := by
  obtain ⟨gs, hgs⟩ : ∃ fs, Try.prog.underlying 60 = some (.struct fs) := ⟨_, Try.underlying60⟩
  obtain ⟨ts, hts⟩ : ∃ fs, Try.prog.underlying 24 = some (.struct fs) := ⟨_, Try.underlying24⟩
  obtain ⟨A, c, rfl⟩ := h.form
  obtain ⟨B, d, rfl⟩ := h'.form
  obtain ⟨w1, hw1⟩ : ∃ w1, w1 = (w.alloc (.cells #[.slice A l.length c] 24)).alloc (.cells #[.slice B m.length d] 24) := ⟨_, rfl⟩
  have q1 : Qt w w1 := by rw [hw1]; exact ((Qt.refl w).alloc _).alloc _
  have b2 : Blk w1 w.heap.size 24 [.slice A l.length c] := by rw [hw1]; exact (show Blk (w.alloc (.cells #[.slice A l.length c] 24)) _ _ _ from heap_alloc_new w _).alloc _
  have b3 : Blk w1 (w.heap.size + 1) 24 [.slice B m.length d] := by
    have h := heap_alloc_new (w.alloc (.cells #[.slice A l.length c] 24)) (.cells #[.slice B m.length d] 24)
    rw [show (w.alloc (.cells #[.slice A l.length c] 24)).heap.size = w.heap.size + 1 from by simp] at h
    rw [hw1]; exact h
  have HO := Lib.hid (open_one l _ lb w1 hl (h.qt q1) (fun k hk => Nat.lt_of_lt_of_le (hlb k hk) q1.size))
  have HP := Lib.hid (fun w' (q : Qt w w') => open_one m _ mb w' hm (h'.qt q) (fun k hk => Nat.lt_of_lt_of_le (hmb k hk) q.size))
  have HQ1 := Lib.hid q1
  have HB2 := Lib.hid b2
  have HB3 := Lib.hid b3
  have HGS := Lib.hid hgs
  have HTS := Lib.hid hts
  have HFL := Lib.hid (fun t (ht : opn l = some t) => (show t.flat.length ≤ 1000000 by rw [← opn_flat ht]; exact hl))
  have HFM := Lib.hid (fun t (ht : opn m = some t) => (show t.flat.length ≤ 1000000 by rw [← opn_flat ht]; exact hm))
  have hdl : sameL l m = (match opn l, opn m with | some t, some u => ord t u == 0 | _, _ => false) := rfl
  have HDL := Lib.hid hdl
  clear h h' hlb hmb q1 b2 b3 hgs hts hdl
  subst hw1
  rcases ho : opn l with _ | t <;> rcases hp : opn m with _ | x
  · skip
    rw [ho] at HO HDL
    rw [hp] at HP HDL
    clear ho hp
    go_enter Try.func18, Try.ntmps18
    go_wp2_with (first
      | (refine armLd rfl 24 (.tmp 2) rfl w.heap.size rfl HB2.out (.struct ts) HTS.out rfl (by kernel_rfl) ?_)
      | (refine armSt rfl 60 (.tmp 5) (.tmp 12) rfl w2.heap.size cs rfl rfl (t := 60) (old := zBr) (heap_alloc_new w2 _) (by rw [h7]; kernel_rfl) (by rw [h7]; rfl) h1 ?_; intro w3 og3 hz3 hb3; (have q23 : Qt w2 w3 := og3.qt ((Qt.refl w2).alloc _) (Nat.le_refl _)); (have q13 := HQ2.out.trans q23); (have q03 := HQ1.out.trans q13); (have HB33 := Lib.hid (HB3.out.qt q13)); (have HBA3 := Lib.hid hb3); (have HQ3 := Lib.hid q03); (have HQ23 := Lib.hid q23); (have HP3 := Lib.hid (HP.out w3 q03)); clear og3 hb3 q23 q13 q03)
      | (refine armLd rfl 24 (.tmp 3) rfl (w.heap.size + 1) rfl HB33.out (.struct ts) HTS.out rfl (by kernel_rfl) ?_)
      | (refine armSt rfl 60 (.tmp 7) (.tmp 17) rfl w4.heap.size ds rfl rfl (t := 60) (old := zBr) (heap_alloc_new w4 _) (by rw [i7]; kernel_rfl) (by rw [i7]; rfl) i1 ?_; intro w5 og5 hz5 hb5; (have q45 : Qt w4 w5 := og5.qt ((Qt.refl w4).alloc _) (Nat.le_refl _)); (have q35 := HQ4.out.trans q45); (have HBA5 := Lib.hid (HBA3.out.qt q35)); (have HBB5 := Lib.hid hb5); (have HQ5 := Lib.hid (HQ3.out.trans q35)); (have HQ45 := Lib.hid q45); (have HQ35 := Lib.hid q35); clear og5 hb5 q45 q35)
      | (first
          | (go_at_call 42; refine HP3.out.mono ?_; rintro e w4 ⟨q4, ds, i7, i1, rfl, hd⟩; (have HQ4 := Lib.hid q4); (have HD := Lib.hid hd); clear q4 hd)
          | (go_at_call 42; refine HO.out.mono ?_; rintro e w2 ⟨q2, cs, h7, h1, rfl, hb⟩; (have HQ2 := Lib.hid q2); (have HB := Lib.hid hb); clear q2 hb)))
    go_ret
    exact ⟨by rw [HDL.out]; rfl, HQ5.out⟩
  · skip
    rw [ho] at HO HDL
    rw [hp] at HP HDL
    clear ho hp
    go_enter Try.func18, Try.ntmps18
    go_wp2_with (first
      | (refine armLd rfl 24 (.tmp 2) rfl w.heap.size rfl HB2.out (.struct ts) HTS.out rfl (by kernel_rfl) ?_)
      | (refine armSt rfl 60 (.tmp 5) (.tmp 12) rfl w2.heap.size cs rfl rfl (t := 60) (old := zBr) (heap_alloc_new w2 _) (by rw [h7]; kernel_rfl) (by rw [h7]; rfl) h1 ?_; intro w3 og3 hz3 hb3; (have q23 : Qt w2 w3 := og3.qt ((Qt.refl w2).alloc _) (Nat.le_refl _)); (have q13 := HQ2.out.trans q23); (have q03 := HQ1.out.trans q13); (have HB33 := Lib.hid (HB3.out.qt q13)); (have HBA3 := Lib.hid hb3); (have HQ3 := Lib.hid q03); (have HQ23 := Lib.hid q23); (have HP3 := Lib.hid (HP.out w3 q03)); clear og3 hb3 q23 q13 q03)
      | (refine armLd rfl 24 (.tmp 3) rfl (w.heap.size + 1) rfl HB33.out (.struct ts) HTS.out rfl (by kernel_rfl) ?_)
      | (refine armSt rfl 60 (.tmp 7) (.tmp 17) rfl w4.heap.size ds rfl rfl (t := 60) (old := zBr) (heap_alloc_new w4 _) (by rw [i7]; kernel_rfl) (by rw [i7]; rfl) i1 ?_; intro w5 og5 hz5 hb5; (have q45 : Qt w4 w5 := og5.qt ((Qt.refl w4).alloc _) (Nat.le_refl _)); (have q35 := HQ4.out.trans q45); (have HBA5 := Lib.hid (HBA3.out.qt q35)); (have HBB5 := Lib.hid hb5); (have HQ5 := Lib.hid (HQ3.out.trans q35)); (have HQ45 := Lib.hid q45); (have HQ35 := Lib.hid q35); clear og5 hb5 q45 q35)
      | (first
          | (go_at_call 42; refine HP3.out.mono ?_; rintro e w4 ⟨q4, ds, i7, i1, rfl, hd⟩; (have HQ4 := Lib.hid q4); (have HD := Lib.hid hd); clear q4 hd)
          | (go_at_call 42; refine HO.out.mono ?_; rintro e w2 ⟨q2, cs, h7, h1, rfl, hb⟩; (have HQ2 := Lib.hid q2); (have HB := Lib.hid hb); clear q2 hb)))
    go_ret
    exact ⟨by rw [HDL.out]; rfl, HQ5.out⟩
  · skip
    rw [ho] at HO HDL
    rw [hp] at HP HDL
    clear ho hp
    go_enter Try.func18, Try.ntmps18
    go_wp2_with (first
      | (refine armLd rfl 24 (.tmp 2) rfl w.heap.size rfl HB2.out (.struct ts) HTS.out rfl (by kernel_rfl) ?_)
      | (refine armSt rfl 60 (.tmp 5) (.tmp 12) rfl w2.heap.size cs rfl rfl (t := 60) (old := zBr) (heap_alloc_new w2 _) (by rw [h7]; kernel_rfl) (by rw [h7]; rfl) h1 ?_; intro w3 og3 hz3 hb3; (have q23 : Qt w2 w3 := og3.qt ((Qt.refl w2).alloc _) (Nat.le_refl _)); (have q13 := HQ2.out.trans q23); (have q03 := HQ1.out.trans q13); (have HB33 := Lib.hid (HB3.out.qt q13)); (have HBA3 := Lib.hid hb3); (have HQ3 := Lib.hid q03); (have HQ23 := Lib.hid q23); (have HP3 := Lib.hid (HP.out w3 q03)); clear og3 hb3 q23 q13 q03)
      | (refine armLd rfl 24 (.tmp 3) rfl (w.heap.size + 1) rfl HB33.out (.struct ts) HTS.out rfl (by kernel_rfl) ?_)
      | (refine armSt rfl 60 (.tmp 7) (.tmp 17) rfl w4.heap.size ds rfl rfl (t := 60) (old := zBr) (heap_alloc_new w4 _) (by rw [i7]; kernel_rfl) (by rw [i7]; rfl) i1 ?_; intro w5 og5 hz5 hb5; (have q45 : Qt w4 w5 := og5.qt ((Qt.refl w4).alloc _) (Nat.le_refl _)); (have q35 := HQ4.out.trans q45); (have HBA5 := Lib.hid (HBA3.out.qt q35)); (have HBB5 := Lib.hid hb5); (have HQ5 := Lib.hid (HQ3.out.trans q35)); (have HQ45 := Lib.hid q45); (have HQ35 := Lib.hid q35); clear og5 hb5 q45 q35)
      | (first
          | (go_at_call 42; refine HP3.out.mono ?_; rintro e w4 ⟨q4, ds, i7, i1, rfl, hd⟩; (have HQ4 := Lib.hid q4); (have HD := Lib.hid hd); clear q4 hd)
          | (go_at_call 42; refine HO.out.mono ?_; rintro e w2 ⟨q2, cs, h7, h1, rfl, hb⟩; (have HQ2 := Lib.hid q2); (have HB := Lib.hid hb); clear q2 hb)))
    go_ret
    exact ⟨by rw [HDL.out]; rfl, HQ5.out⟩
  · skip
    have hft := HFL.out t ho
    have hfx := HFM.out x hp
    rw [ho] at HO HDL
    rw [hp] at HP HDL
    clear ho hp
    go_enter Try.func18, Try.ntmps18
    go_wp2_with (first
      | (refine armLd rfl 24 (.tmp 2) rfl w.heap.size rfl HB2.out (.struct ts) HTS.out rfl (by kernel_rfl) ?_)
      | (refine armSt rfl 60 (.tmp 5) (.tmp 12) rfl w2.heap.size cs rfl rfl (t := 60) (old := zBr) (heap_alloc_new w2 _) (by rw [h7]; kernel_rfl) (by rw [h7]; rfl) h1 ?_; intro w3 og3 hz3 hb3; (have q23 : Qt w2 w3 := og3.qt ((Qt.refl w2).alloc _) (Nat.le_refl _)); (have q13 := HQ2.out.trans q23); (have q03 := HQ1.out.trans q13); (have HB33 := Lib.hid (HB3.out.qt q13)); (have HBA3 := Lib.hid hb3); (have HQ3 := Lib.hid q03); (have HQ23 := Lib.hid q23); (have HP3 := Lib.hid (HP.out w3 q03)); clear og3 hb3 q23 q13 q03)
      | (refine armLd rfl 24 (.tmp 3) rfl (w.heap.size + 1) rfl HB33.out (.struct ts) HTS.out rfl (by kernel_rfl) ?_)
      | (refine armSt rfl 60 (.tmp 7) (.tmp 17) rfl w4.heap.size ds rfl rfl (t := 60) (old := zBr) (heap_alloc_new w4 _) (by rw [i7]; kernel_rfl) (by rw [i7]; rfl) i1 ?_; intro w5 og5 hz5 hb5; (have q45 : Qt w4 w5 := og5.qt ((Qt.refl w4).alloc _) (Nat.le_refl _)); (have q35 := HQ4.out.trans q45); (have HBA5 := Lib.hid (HBA3.out.qt q35)); (have HBB5 := Lib.hid hb5); (have HQ5 := Lib.hid (HQ3.out.trans q35)); (have HQ45 := Lib.hid q45); (have HQ35 := Lib.hid q35); (have HC := Lib.hid (order_any _ t x cs ds _ _ w5 (Nat.le_refl _) hft hfx ((HB.out t rfl).qt (HQ23.out.trans HQ35.out)) ((HD.out x rfl).qt HQ45.out))); clear og5 hb5 q45 q35)
      | (first
          | (go_at_call 42; refine HP3.out.mono ?_; rintro e w4 ⟨q4, ds, i7, i1, rfl, hd⟩; (have HQ4 := Lib.hid q4); (have HD := Lib.hid hd); clear q4 hd)
          | (go_at_call 42; refine HO.out.mono ?_; rintro e w2 ⟨q2, cs, h7, h1, rfl, hb⟩; (have HQ2 := Lib.hid q2); (have HB := Lib.hid hb); clear q2 hb))
      | (refine armLdG 60 (.tmp 5) rfl w2.heap.size rfl HBA5.out (.struct gs) HGS.out rfl (by rw [h7]; kernel_rfl) rfl ?_)
      | (refine armLdG 60 (.tmp 7) rfl w4.heap.size rfl HBB5.out (.struct gs) HGS.out rfl (by rw [i7]; kernel_rfl) rfl ?_)
      | (go_at_call 43; refine HC.out.mono ?_; rintro e w6 ⟨rfl, q6⟩; (have HQ6 := Lib.hid q6); clear q6))
    go_ret
    exact ⟨by rw [HDL.out]; rfl, HQ5.out.trans HQ6.out⟩

set_option maxRecDepth 100000 in
set_option maxHeartbeats 1000000 in
theorem Fits_any (l : List Nd) (v : Value) (lb : Nat → Prop) (w : World) (most deep : Int) (hm : l.length ≤ 1000000) (h : Lies w lb v l) (hlb : ∀ k, lb k → k < w.heap.size) :
    Calls Try.prog 36 #[.agg #[v], .int .i64 most, .int .i64 deep] w fun e w' => e = .returned (.bool (fitsL l most deep)) ∧ Qt w w' := by
  obtain ⟨gs, hgs⟩ : ∃ fs, Try.prog.underlying 60 = some (.struct fs) := ⟨_, Try.underlying60⟩
  obtain ⟨ts, hts⟩ : ∃ fs, Try.prog.underlying 24 = some (.struct fs) := ⟨_, Try.underlying24⟩
  obtain ⟨A, c, rfl⟩ := h.form
  have q1 : Qt w (w.alloc (.cells #[.slice A l.length c] 24)) := (Qt.refl w).alloc _
  have HO := Lib.hid (open_one l _ lb _ hm (h.qt q1) (fun k hk => Nat.lt_of_lt_of_le (hlb k hk) q1.size))
  have HQ1 := Lib.hid q1
  have HGS := Lib.hid hgs
  have HTS := Lib.hid hts
  have HFL := Lib.hid (fun t (ht : opn l = some t) => (show t.flat.length ≤ 1000000 by rw [← opn_flat ht]; exact hm))
  have hdl : fitsL l most deep = (decide ((l.length : Int) ≤ most) && (match opn l with | none => false | some t => decide ((dep t : Int) ≤ deep) && rightT t)) := rfl
  have HDL := Lib.hid hdl
  clear h hlb q1 hgs hts hdl
  by_cases h0 : (l.length : Int) ≤ most
  · have g0 : decide (most < (l.length : Int)) = false := decide_eq_false (by omega)
    have H0 := Lib.hid (decide_eq_true h0)
    rw [H0.out, Bool.true_and] at HDL
    clear h0
    cases ho : opn l with
    | none =>
      rw [ho] at HO HDL
      clear ho
      go_enter Try.func36, Try.ntmps36
      go_wp2_with (first
        | (refine armLd rfl 24 (.tmp 3) rfl w.heap.size rfl (cs := [.slice A l.length c]) (heap_alloc_new w _) (.struct ts) HTS.out rfl (by kernel_rfl) ?_)
        | (go_at_call 42; refine HO.out.mono ?_; rintro e w2 ⟨q2, cs, h7, h1, rfl, hb⟩; (have HQ2 := Lib.hid q2); (have HB := Lib.hid hb); clear q2 hb)
        | (refine armSt rfl 60 (.tmp 7) (.tmp 17) rfl w2.heap.size cs rfl rfl (t := 60) (old := zBr) (heap_alloc_new w2 _) (by rw [h7]; kernel_rfl) (by rw [h7]; rfl) h1 ?_; intro w3 og3 hz3 hb3; (have q3 : Qt w2 w3 := og3.qt ((Qt.refl w2).alloc _) (Nat.le_refl _)); (have HQ23 := Lib.hid q3); (have HQ3 := Lib.hid ((HQ1.out.trans HQ2.out).trans q3)); (have HB3 := Lib.hid hb3); clear og3 hb3 q3))
      refine wp_region_held (S := (fun u => u.rangeAt w2.heap.size 0 cs)) (by kernel_rfl) ?_
      change wpAnyH _ _ _ _ _ _ _ _ (World.drew _)
      refine genT fun F0 hA => ?_
      have z0 : F0.tmps.size = 31 := by rw [hA]; rfl
      have e8_0 : F0.eval (.tmp 8) = .bool false := by rw [hA]; rfl
      have HA := Lib.hid hA
      clear hA
      have HS := Lib.hid (show World.rangeAt w3.drew _ _ _ from (show Blk w3.drew _ _ _ from HB3.out).range 0 cs (by rw [List.drop_zero, List.take_length]))
      refine tkT (i := 0) (oi := _) (v := .bool false) rfl (by kernel_rfl) (by kernel_rfl) (by kernel_rfl) (fun _ _ _ h => h) HS.out (wantedT rfl) (fun w _ => mvT rfl e8_0 w) ?_
      intro F1 hF
      replace hF : F1 = F0.put (some 19) (.bool false) := hF
      have z1 : F1.tmps.size = 31 := by rw [hF]; simpa [Act.put] using z0
      have e19_1 : F1.eval (.tmp 19) = .bool false := by rw [hF]; exact evS (by rw [z0]; decide)
      have HF1 := Lib.hid hF
      clear hF e8_0
      refine tkT (i := 1) (oi := _) (v := .bool false) rfl (by kernel_rfl) (by kernel_rfl) (by kernel_rfl) (fun _ _ _ h => h) HS.out (wantedT rfl) (fun w _ => mvT rfl e19_1 w) ?_
      intro F2 hF
      replace hF : F2 = F1.put (some 20) (.bool false) := hF
      have z2 : F2.tmps.size = 31 := by rw [hF]; simpa [Act.put] using z1
      have e20_2 : F2.eval (.tmp 20) = .bool false := by rw [hF]; exact evS (by rw [z1]; decide)
      have HF2 := Lib.hid hF
      clear hF e19_1
      refine skT (i := 2) (oi := _) rfl (by kernel_rfl) (by kernel_rfl) (by kernel_rfl) (fun _ _ _ h => h) HS.out (by rw [wantedG (d := 20) rfl rfl e20_2 (by rw [z2]; decide)]; rfl) ?_
      intro F3 hF
      replace hF : F3 = F2.put (some 21) (undef) := hF
      have z3 : F3.tmps.size = 31 := by rw [hF]; simpa [Act.put] using z2
      have e20_3 := (show F3.eval (.tmp 20) = F2.eval (.tmp 20) by rw [hF]; exact evO (by decide)).trans e20_2
      have HF3 := Lib.hid hF
      clear hF e20_2
      refine skT (i := 4) (oi := _) rfl (by kernel_rfl) (by kernel_rfl) (by kernel_rfl) (fun _ _ _ h => h) HS.out (by rw [wantedG (d := 20) rfl rfl e20_3 (by rw [z3]; decide)]; rfl) ?_
      intro F4 hF
      replace hF : F4 = F3.put (some 23) (undef) := hF
      have z4 : F4.tmps.size = 31 := by rw [hF]; simpa [Act.put] using z3
      have e20_4 := (show F4.eval (.tmp 20) = F3.eval (.tmp 20) by rw [hF]; exact evO (by decide)).trans e20_3
      have HF4 := Lib.hid hF
      clear hF e20_3
      refine skT (i := 3) (oi := _) rfl (by kernel_rfl) (by kernel_rfl) (by kernel_rfl) (fun _ _ _ h => h) HS.out (by rw [wantedG (d := 20) rfl rfl e20_4 (by rw [z4]; decide)]; rfl) ?_
      intro F5 hF
      replace hF : F5 = F4.put (some 22) (undef) := hF
      have z5 : F5.tmps.size = 31 := by rw [hF]; simpa [Act.put] using z4
      have e20_5 := (show F5.eval (.tmp 20) = F4.eval (.tmp 20) by rw [hF]; exact evO (by decide)).trans e20_4
      have HF5 := Lib.hid hF
      clear hF e20_4
      refine skT (i := 5) (oi := _) rfl (by kernel_rfl) (by kernel_rfl) (by kernel_rfl) (fun _ _ _ h => h) HS.out (by rw [wantedG (d := 20) rfl rfl e20_5 (by rw [z5]; decide)]; rfl) ?_
      intro F6 hF
      replace hF : F6 = F5.put (some 24) (undef) := hF
      have z6 : F6.tmps.size = 31 := by rw [hF]; simpa [Act.put] using z5
      have e20_6 := (show F6.eval (.tmp 20) = F5.eval (.tmp 20) by rw [hF]; exact evO (by decide)).trans e20_5
      have e24_6 : F6.eval (.tmp 24) = undef := by rw [hF]; exact evS (by rw [z5]; decide)
      have HF6 := Lib.hid hF
      clear hF e20_5
      refine tkT (i := 6) (oi := _) (v := .bool false) rfl (by kernel_rfl) (by kernel_rfl) (by kernel_rfl) (fun _ _ _ h => h) HS.out (wantedT rfl) (fun w hs => pkT (vy := .bool false) rfl e20_6 e24_6 rfl w) ?_
      intro F7 hF
      replace hF : F7 = F6.put (some 25) (.bool false) := hF
      have z7 : F7.tmps.size = 31 := by rw [hF]; simpa [Act.put] using z6
      have e25_7 : F7.eval (.tmp 25) = .bool false := by rw [hF]; exact evS (by rw [z6]; decide)
      have HF7 := Lib.hid hF
      clear hF e20_6 e24_6
      refine tkT (i := 7) (oi := _) (v := .bool false) rfl (by kernel_rfl) (by kernel_rfl) (by kernel_rfl) (fun _ _ _ h => h) HS.out (wantedT rfl) (fun w _ => mvT rfl e25_7 w) ?_
      intro F8 hF
      replace hF : F8 = F7.put (some 26) (.bool false) := hF
      have z8 : F8.tmps.size = 31 := by rw [hF]; simpa [Act.put] using z7
      have e26_8 : F8.eval (.tmp 26) = .bool false := by rw [hF]; exact evS (by rw [z7]; decide)
      have HF8 := Lib.hid hF
      clear hF e25_7
      refine skT (i := 8) (oi := _) rfl (by kernel_rfl) (by kernel_rfl) (by kernel_rfl) (fun _ _ _ h => h) HS.out (by rw [wantedG (d := 26) rfl rfl e26_8 (by rw [z8]; decide)]; rfl) ?_
      intro F9 hF
      replace hF : F9 = F8.put (some 27) (undef) := hF
      have z9 : F9.tmps.size = 31 := by rw [hF]; simpa [Act.put] using z8
      have e26_9 := (show F9.eval (.tmp 26) = F8.eval (.tmp 26) by rw [hF]; exact evO (by decide)).trans e26_8
      have HF9 := Lib.hid hF
      clear hF e26_8
      refine skT (i := 9) (oi := _) rfl (by kernel_rfl) (by kernel_rfl) (by kernel_rfl) (fun _ _ _ h => h) HS.out (by rw [wantedG (d := 26) rfl rfl e26_9 (by rw [z9]; decide)]; rfl) ?_
      intro F10 hF
      replace hF : F10 = F9.put (some 28) (undef) := hF
      have z10 : F10.tmps.size = 31 := by rw [hF]; simpa [Act.put] using z9
      have e26_10 := (show F10.eval (.tmp 26) = F9.eval (.tmp 26) by rw [hF]; exact evO (by decide)).trans e26_9
      have HF10 := Lib.hid hF
      clear hF e26_9
      refine skT (i := 10) (oi := _) rfl (by kernel_rfl) (by kernel_rfl) (by kernel_rfl) (fun _ _ _ h => h) HS.out (by rw [wantedG (d := 26) rfl rfl e26_10 (by rw [z10]; decide)]; rfl) ?_
      intro F11 hF
      replace hF : F11 = F10.put (some 29) (undef) := hF
      have z11 : F11.tmps.size = 31 := by rw [hF]; simpa [Act.put] using z10
      have e26_11 := (show F11.eval (.tmp 26) = F10.eval (.tmp 26) by rw [hF]; exact evO (by decide)).trans e26_10
      have e29_11 : F11.eval (.tmp 29) = undef := by rw [hF]; exact evS (by rw [z10]; decide)
      have HF11 := Lib.hid hF
      clear hF e26_10
      refine tkT (i := 11) (oi := _) (v := .bool false) rfl (by kernel_rfl) (by kernel_rfl) (by kernel_rfl) (fun _ _ _ h => h) HS.out (wantedT rfl) (fun w hs => pkT (vy := .bool false) rfl e26_11 e29_11 rfl w) ?_
      intro F12 hF
      replace hF : F12 = F11.put (some 30) (.bool false) := hF
      have z12 : F12.tmps.size = 31 := by rw [hF]; simpa [Act.put] using z11
      have e30_12 : F12.eval (.tmp 30) = .bool false := by rw [hF]; exact evS (by rw [z11]; decide)
      have HF12 := Lib.hid hF
      clear hF e26_11 e29_11
      refine tkT (i := 12) (oi := _) (v := .bool false) rfl (by kernel_rfl) (by kernel_rfl) (by kernel_rfl) (fun _ _ _ h => h) HS.out (wantedT rfl) (fun w _ => asT rfl e30_12 w) ?_
      intro F13 hF
      replace hF : F13 = F12.put (some 6) (.bool false) := hF
      have z13 : F13.tmps.size = 31 := by rw [hF]; simpa [Act.put] using z12
      have HF13 := Lib.hid hF
      clear hF e30_12
      refine wpAnyH_done (by kernel_rfl) ?_ _
      rw [HF13.out, HF12.out, HF11.out, HF10.out, HF9.out, HF8.out, HF7.out, HF6.out, HF5.out, HF4.out, HF3.out, HF2.out, HF1.out, HA.out]
      simp only [Act.put, List.setIfInBounds_toArray, List.set_cons_succ, List.set_cons_zero]
      clear HF13 HF12 HF11 HF10 HF9 HF8 HF7 HF6 HF5 HF4 HF3 HF2 HF1 HA z13 z12 z11 z10 z9 z8 z7 z6 z5 z4 z3 z2 z1 z0 
      try go_wp2
      go_ret
      exact ⟨by rw [HDL.out]; rfl, HQ3.out.drew⟩
    | some t =>
      have hft := HFL.out t ho
      rw [ho] at HO HDL
      clear ho
      have hdl : dep t ≤ 1000000 := Nat.le_trans (dep_le t) hft
      by_cases hd : (dep t : Int) ≤ deep
      · have g1 : decide ((dep t : Int) ≤ deep) = true := decide_eq_true hd
        have HDD := Lib.hid hd
        clear hd
        go_enter Try.func36, Try.ntmps36
        go_wp2_with (first
          | (refine armLd rfl 24 (.tmp 3) rfl w.heap.size rfl (cs := [.slice A l.length c]) (heap_alloc_new w _) (.struct ts) HTS.out rfl (by kernel_rfl) ?_)
          | (go_at_call 42; refine HO.out.mono ?_; rintro e w2 ⟨q2, cs, h7, h1, rfl, hb⟩; (have HQ2 := Lib.hid q2); (have HB := Lib.hid hb); clear q2 hb)
          | (refine armSt rfl 60 (.tmp 7) (.tmp 17) rfl w2.heap.size cs rfl rfl (t := 60) (old := zBr) (heap_alloc_new w2 _) (by rw [h7]; kernel_rfl) (by rw [h7]; rfl) h1 ?_; intro w3 og3 hz3 hb3; (have q3 : Qt w2 w3 := og3.qt ((Qt.refl w2).alloc _) (Nat.le_refl _)); (have HQ23 := Lib.hid q3); (have HQ3 := Lib.hid ((HQ1.out.trans HQ2.out).trans q3)); (have HB3 := Lib.hid hb3); clear og3 hb3 q3))
        have HBW := Lib.hid ((HB.out t rfl).qt HQ23.out)
        have HC := Lib.hid (fun w' (q : Qt w3 w') => deep_any _ t cs _ w' (Nat.le_refl _) hft (HBW.out.qt q))
        refine wp_region_held (S := (fun u => u.rangeAt w2.heap.size 0 cs)) (by kernel_rfl) ?_
        change wpAnyH _ _ _ _ _ _ _ _ (World.drew _)
        refine genT fun F0 hA => ?_
        have z0 : F0.tmps.size = 31 := by rw [hA]; rfl
        have e2_0 : F0.eval (.tmp 2) = .int .i64 deep := by rw [hA]; rfl
        have e7_0 : F0.eval (.tmp 7) = .pointer (some ⟨w2.heap.size, 0, none⟩) := by rw [hA]; rfl
        have e8_0 : F0.eval (.tmp 8) = .bool true := by rw [hA]; rfl
        have HA := Lib.hid hA
        clear hA
        have HS := Lib.hid (show World.rangeAt w3.drew _ _ _ from (show Blk w3.drew _ _ _ from HB3.out).range 0 cs (by rw [List.drop_zero, List.take_length]))
        refine tkT (i := 0) (oi := _) (v := .bool true) rfl (by kernel_rfl) (by kernel_rfl) (by kernel_rfl) (fun _ _ _ h => h) HS.out (wantedT rfl) (fun w _ => mvT rfl e8_0 w) ?_
        intro F1 hF
        replace hF : F1 = F0.put (some 19) (.bool true) := hF
        have z1 : F1.tmps.size = 31 := by rw [hF]; simpa [Act.put] using z0
        have e2_1 := (show F1.eval (.tmp 2) = F0.eval (.tmp 2) by rw [hF]; exact evO (by decide)).trans e2_0
        have e7_1 := (show F1.eval (.tmp 7) = F0.eval (.tmp 7) by rw [hF]; exact evO (by decide)).trans e7_0
        have e19_1 : F1.eval (.tmp 19) = .bool true := by rw [hF]; exact evS (by rw [z0]; decide)
        have HF1 := Lib.hid hF
        clear hF e2_0 e7_0 e8_0
        refine tkT (i := 1) (oi := _) (v := .bool true) rfl (by kernel_rfl) (by kernel_rfl) (by kernel_rfl) (fun _ _ _ h => h) HS.out (wantedT rfl) (fun w _ => mvT rfl e19_1 w) ?_
        intro F2 hF
        replace hF : F2 = F1.put (some 20) (.bool true) := hF
        have z2 : F2.tmps.size = 31 := by rw [hF]; simpa [Act.put] using z1
        have e2_2 := (show F2.eval (.tmp 2) = F1.eval (.tmp 2) by rw [hF]; exact evO (by decide)).trans e2_1
        have e7_2 := (show F2.eval (.tmp 7) = F1.eval (.tmp 7) by rw [hF]; exact evO (by decide)).trans e7_1
        have e20_2 : F2.eval (.tmp 20) = .bool true := by rw [hF]; exact evS (by rw [z1]; decide)
        have HF2 := Lib.hid hF
        clear hF e2_1 e7_1 e19_1
        refine tkT (i := 2) (oi := _) (v := .agg cs.toArray) rfl (by kernel_rfl) (by kernel_rfl) (by kernel_rfl) (fun _ _ _ h => h) HS.out (by rw [wantedG (d := 20) rfl rfl e20_2 (by rw [z2]; decide)]; rfl) (fun w hs => lrT rfl e7_2 hs (d := .struct gs) HGS.out rfl (by rw [h7]; kernel_rfl)) ?_
        intro F3 hF
        replace hF : F3 = F2.put (some 21) (.agg cs.toArray) := hF
        have z3 : F3.tmps.size = 31 := by rw [hF]; simpa [Act.put] using z2
        have e2_3 := (show F3.eval (.tmp 2) = F2.eval (.tmp 2) by rw [hF]; exact evO (by decide)).trans e2_2
        have e7_3 := (show F3.eval (.tmp 7) = F2.eval (.tmp 7) by rw [hF]; exact evO (by decide)).trans e7_2
        have e20_3 := (show F3.eval (.tmp 20) = F2.eval (.tmp 20) by rw [hF]; exact evO (by decide)).trans e20_2
        have e21_3 : F3.eval (.tmp 21) = .agg cs.toArray := by rw [hF]; exact evS (by rw [z2]; decide)
        have HF3 := Lib.hid hF
        clear hF e2_2 e7_2 e20_2
        refine tkT (i := 4) (oi := _) (v := .int .i64 deep) rfl (by kernel_rfl) (by kernel_rfl) (by kernel_rfl) (fun _ _ _ h => h) HS.out (by rw [wantedG (d := 20) rfl rfl e20_3 (by rw [z3]; decide)]; rfl) (fun w _ => mvT rfl e2_3 w) ?_
        intro F4 hF
        replace hF : F4 = F3.put (some 23) (.int .i64 deep) := hF
        have z4 : F4.tmps.size = 31 := by rw [hF]; simpa [Act.put] using z3
        have e7_4 := (show F4.eval (.tmp 7) = F3.eval (.tmp 7) by rw [hF]; exact evO (by decide)).trans e7_3
        have e20_4 := (show F4.eval (.tmp 20) = F3.eval (.tmp 20) by rw [hF]; exact evO (by decide)).trans e20_3
        have e21_4 := (show F4.eval (.tmp 21) = F3.eval (.tmp 21) by rw [hF]; exact evO (by decide)).trans e21_3
        have e23_4 : F4.eval (.tmp 23) = .int .i64 deep := by rw [hF]; exact evS (by rw [z3]; decide)
        have HF4 := Lib.hid hF
        clear hF e2_3 e7_3 e20_3 e21_3
        refine aloneT (i := 3) (oi := _) rfl (by kernel_rfl) (by rw [wantedG (d := 20) rfl rfl e20_4 (by rw [z4]; decide)]; rfl) ?_
        refine wpCall (clT (f := 45) (args := #[.agg cs.toArray]) rfl (by simp only [List.map_toArray, List.map_cons, List.map_nil, e21_4] <;> rfl) (fun args w => by kernel_rfl)) (fun v w' => v = .int .i64 (dep t : Int) ∧ Qt w3.drew w') ((HC.out w3.drew (Qt.refl w3).drew).mono (by rintro e w' ⟨rfl, q⟩; exact ⟨_, rfl, rfl, q⟩)) ?_
        rintro v w4 ⟨rfl, q4⟩
        refine ⟨rangeQt HS.out q4, genT fun F5 hF => ?_⟩
        have HS := Lib.hid (rangeQt HS.out q4)
        replace hF : F5 = F4.put (some 22) (.int .i64 (dep t : Int)) := hF
        have z5 : F5.tmps.size = 31 := by rw [hF]; simpa [Act.put] using z4
        have e7_5 := (show F5.eval (.tmp 7) = F4.eval (.tmp 7) by rw [hF]; exact evO (by decide)).trans e7_4
        have e20_5 := (show F5.eval (.tmp 20) = F4.eval (.tmp 20) by rw [hF]; exact evO (by decide)).trans e20_4
        have e22_5 : F5.eval (.tmp 22) = .int .i64 (dep t : Int) := by rw [hF]; exact evS (by rw [z4]; decide)
        have e23_5 := (show F5.eval (.tmp 23) = F4.eval (.tmp 23) by rw [hF]; exact evO (by decide)).trans e23_4
        have HF5 := Lib.hid hF
        clear hF e7_4 e20_4 e21_4 e23_4
        refine tkT (i := 5) (oi := _) (v := .bool true) rfl (by kernel_rfl) (by kernel_rfl) (by kernel_rfl) (fun _ _ _ h => h) HS.out (by rw [wantedG (d := 20) rfl rfl e20_5 (by rw [z5]; decide)]; rfl) (fun w hs => boT rfl e22_5 e23_5 (by go_simp) (by go_simp)) ?_
        intro F6 hF
        replace hF : F6 = F5.put (some 24) (.bool true) := hF
        have z6 : F6.tmps.size = 31 := by rw [hF]; simpa [Act.put] using z5
        have e7_6 := (show F6.eval (.tmp 7) = F5.eval (.tmp 7) by rw [hF]; exact evO (by decide)).trans e7_5
        have e20_6 := (show F6.eval (.tmp 20) = F5.eval (.tmp 20) by rw [hF]; exact evO (by decide)).trans e20_5
        have e24_6 : F6.eval (.tmp 24) = .bool true := by rw [hF]; exact evS (by rw [z5]; decide)
        have HF6 := Lib.hid hF
        clear hF e7_5 e20_5 e22_5 e23_5
        refine tkT (i := 6) (oi := _) (v := .bool true) rfl (by kernel_rfl) (by kernel_rfl) (by kernel_rfl) (fun _ _ _ h => h) HS.out (wantedT rfl) (fun w hs => pkT (vy := .bool false) rfl e20_6 e24_6 rfl w) ?_
        intro F7 hF
        replace hF : F7 = F6.put (some 25) (.bool true) := hF
        have z7 : F7.tmps.size = 31 := by rw [hF]; simpa [Act.put] using z6
        have e7_7 := (show F7.eval (.tmp 7) = F6.eval (.tmp 7) by rw [hF]; exact evO (by decide)).trans e7_6
        have e25_7 : F7.eval (.tmp 25) = .bool true := by rw [hF]; exact evS (by rw [z6]; decide)
        have HF7 := Lib.hid hF
        clear hF e7_6 e20_6 e24_6
        refine tkT (i := 7) (oi := _) (v := .bool true) rfl (by kernel_rfl) (by kernel_rfl) (by kernel_rfl) (fun _ _ _ h => h) HS.out (wantedT rfl) (fun w _ => mvT rfl e25_7 w) ?_
        intro F8 hF
        replace hF : F8 = F7.put (some 26) (.bool true) := hF
        have z8 : F8.tmps.size = 31 := by rw [hF]; simpa [Act.put] using z7
        have e7_8 := (show F8.eval (.tmp 7) = F7.eval (.tmp 7) by rw [hF]; exact evO (by decide)).trans e7_7
        have e26_8 : F8.eval (.tmp 26) = .bool true := by rw [hF]; exact evS (by rw [z7]; decide)
        have HF8 := Lib.hid hF
        clear hF e7_7 e25_7
        refine tkT (i := 8) (oi := _) (v := .agg cs.toArray) rfl (by kernel_rfl) (by kernel_rfl) (by kernel_rfl) (fun _ _ _ h => h) HS.out (by rw [wantedG (d := 26) rfl rfl e26_8 (by rw [z8]; decide)]; rfl) (fun w hs => lrT rfl e7_8 hs (d := .struct gs) HGS.out rfl (by rw [h7]; kernel_rfl)) ?_
        intro F9 hF
        replace hF : F9 = F8.put (some 27) (.agg cs.toArray) := hF
        have z9 : F9.tmps.size = 31 := by rw [hF]; simpa [Act.put] using z8
        have e26_9 := (show F9.eval (.tmp 26) = F8.eval (.tmp 26) by rw [hF]; exact evO (by decide)).trans e26_8
        have e27_9 : F9.eval (.tmp 27) = .agg cs.toArray := by rw [hF]; exact evS (by rw [z8]; decide)
        have HF9 := Lib.hid hF
        clear hF e7_8 e26_8
        refine aloneT (i := 9) (oi := _) rfl (by kernel_rfl) (by rw [wantedG (d := 26) rfl rfl e26_9 (by rw [z9]; decide)]; rfl) ?_
        refine wpCall (clT (f := 58) (args := #[]) rfl (by simp) (fun args w => by kernel_rfl)) (fun v w' => ∃ mb, v = .map (some mb) ∧ MapAt w' mb kEs 6 ∧ Qt w4 w') ((kinds_any w4).mono (by rintro e w' ⟨⟨mb, rfl, hma⟩, q⟩; exact ⟨_, rfl, mb, rfl, hma, q⟩)) ?_
        rintro v w5 ⟨mb, rfl, hma, q5⟩
        refine ⟨rangeQt HS.out q5, genT fun F10 hF => ?_⟩
        have HS := Lib.hid (rangeQt HS.out q5)
        replace hF : F10 = F9.put (some 28) (.map (some mb)) := hF
        have z10 : F10.tmps.size = 31 := by rw [hF]; simpa [Act.put] using z9
        have e26_10 := (show F10.eval (.tmp 26) = F9.eval (.tmp 26) by rw [hF]; exact evO (by decide)).trans e26_9
        have e27_10 := (show F10.eval (.tmp 27) = F9.eval (.tmp 27) by rw [hF]; exact evO (by decide)).trans e27_9
        have e28_10 : F10.eval (.tmp 28) = .map (some mb) := by rw [hF]; exact evS (by rw [z9]; decide)
        have HF10 := Lib.hid hF
        clear hF e26_9 e27_9
        refine aloneT (i := 10) (oi := _) rfl (by kernel_rfl) (by rw [wantedG (d := 26) rfl rfl e26_10 (by rw [z10]; decide)]; rfl) ?_
        refine wpCall (clT (f := 57) (args := #[.agg cs.toArray, .map (some mb)]) rfl (by simp only [List.map_toArray, List.map_cons, List.map_nil, e27_10, e28_10] <;> rfl) (fun args w => by kernel_rfl)) (fun v w' => v = .bool (rightT t) ∧ Qt w5 w') ((right_any mb _ _ t (Nat.le_refl _) hft cs w5 (HBW.out.qt (((Qt.refl w3).drew.trans q4).trans q5)) hma).mono (by rintro e w' ⟨rfl, q⟩; exact ⟨_, rfl, rfl, q⟩)) ?_
        rintro v w6 ⟨rfl, q6⟩
        refine ⟨rangeQt HS.out q6, genT fun F11 hF => ?_⟩
        have HS := Lib.hid (rangeQt HS.out q6)
        replace hF : F11 = F10.put (some 29) (.bool (rightT t)) := hF
        have z11 : F11.tmps.size = 31 := by rw [hF]; simpa [Act.put] using z10
        have e26_11 := (show F11.eval (.tmp 26) = F10.eval (.tmp 26) by rw [hF]; exact evO (by decide)).trans e26_10
        have e29_11 : F11.eval (.tmp 29) = .bool (rightT t) := by rw [hF]; exact evS (by rw [z10]; decide)
        have HF11 := Lib.hid hF
        clear hF e26_10 e27_10 e28_10
        refine tkT (i := 11) (oi := _) (v := .bool (rightT t)) rfl (by kernel_rfl) (by kernel_rfl) (by kernel_rfl) (fun _ _ _ h => h) HS.out (wantedT rfl) (fun w hs => pkT (vy := .bool false) rfl e26_11 e29_11 rfl w) ?_
        intro F12 hF
        replace hF : F12 = F11.put (some 30) (.bool (rightT t)) := hF
        have z12 : F12.tmps.size = 31 := by rw [hF]; simpa [Act.put] using z11
        have e30_12 : F12.eval (.tmp 30) = .bool (rightT t) := by rw [hF]; exact evS (by rw [z11]; decide)
        have HF12 := Lib.hid hF
        clear hF e26_11 e29_11
        refine tkT (i := 12) (oi := _) (v := .bool (rightT t)) rfl (by kernel_rfl) (by kernel_rfl) (by kernel_rfl) (fun _ _ _ h => h) HS.out (wantedT rfl) (fun w _ => asT rfl e30_12 w) ?_
        intro F13 hF
        replace hF : F13 = F12.put (some 6) (.bool (rightT t)) := hF
        have z13 : F13.tmps.size = 31 := by rw [hF]; simpa [Act.put] using z12
        have HF13 := Lib.hid hF
        clear hF e30_12
        refine wpAnyH_done (by kernel_rfl) ?_ _
        rw [HF13.out, HF12.out, HF11.out, HF10.out, HF9.out, HF8.out, HF7.out, HF6.out, HF5.out, HF4.out, HF3.out, HF2.out, HF1.out, HA.out]
        simp only [Act.put, List.setIfInBounds_toArray, List.set_cons_succ, List.set_cons_zero]
        clear HF13 HF12 HF11 HF10 HF9 HF8 HF7 HF6 HF5 HF4 HF3 HF2 HF1 HA z13 z12 z11 z10 z9 z8 z7 z6 z5 z4 z3 z2 z1 z0 
        try go_wp2
        go_ret
        exact ⟨by rw [HDL.out, decide_eq_true HDD.out]; rfl, HQ3.out.trans (((((Qt.refl w3).drew.trans q4).trans q5).trans q6))⟩
      · have g1 : decide ((dep t : Int) ≤ deep) = false := decide_eq_false hd
        have HDD := Lib.hid hd
        clear hd
        go_enter Try.func36, Try.ntmps36
        go_wp2_with (first
          | (refine armLd rfl 24 (.tmp 3) rfl w.heap.size rfl (cs := [.slice A l.length c]) (heap_alloc_new w _) (.struct ts) HTS.out rfl (by kernel_rfl) ?_)
          | (go_at_call 42; refine HO.out.mono ?_; rintro e w2 ⟨q2, cs, h7, h1, rfl, hb⟩; (have HQ2 := Lib.hid q2); (have HB := Lib.hid hb); clear q2 hb)
          | (refine armSt rfl 60 (.tmp 7) (.tmp 17) rfl w2.heap.size cs rfl rfl (t := 60) (old := zBr) (heap_alloc_new w2 _) (by rw [h7]; kernel_rfl) (by rw [h7]; rfl) h1 ?_; intro w3 og3 hz3 hb3; (have q3 : Qt w2 w3 := og3.qt ((Qt.refl w2).alloc _) (Nat.le_refl _)); (have HQ23 := Lib.hid q3); (have HQ3 := Lib.hid ((HQ1.out.trans HQ2.out).trans q3)); (have HB3 := Lib.hid hb3); clear og3 hb3 q3))
        have HBW := Lib.hid ((HB.out t rfl).qt HQ23.out)
        have HC := Lib.hid (fun w' (q : Qt w3 w') => deep_any _ t cs _ w' (Nat.le_refl _) hft (HBW.out.qt q))
        refine wp_region_held (S := (fun u => u.rangeAt w2.heap.size 0 cs)) (by kernel_rfl) ?_
        change wpAnyH _ _ _ _ _ _ _ _ (World.drew _)
        refine genT fun F0 hA => ?_
        have z0 : F0.tmps.size = 31 := by rw [hA]; rfl
        have e2_0 : F0.eval (.tmp 2) = .int .i64 deep := by rw [hA]; rfl
        have e7_0 : F0.eval (.tmp 7) = .pointer (some ⟨w2.heap.size, 0, none⟩) := by rw [hA]; rfl
        have e8_0 : F0.eval (.tmp 8) = .bool true := by rw [hA]; rfl
        have HA := Lib.hid hA
        clear hA
        have HS := Lib.hid (show World.rangeAt w3.drew _ _ _ from (show Blk w3.drew _ _ _ from HB3.out).range 0 cs (by rw [List.drop_zero, List.take_length]))
        refine tkT (i := 0) (oi := _) (v := .bool true) rfl (by kernel_rfl) (by kernel_rfl) (by kernel_rfl) (fun _ _ _ h => h) HS.out (wantedT rfl) (fun w _ => mvT rfl e8_0 w) ?_
        intro F1 hF
        replace hF : F1 = F0.put (some 19) (.bool true) := hF
        have z1 : F1.tmps.size = 31 := by rw [hF]; simpa [Act.put] using z0
        have e2_1 := (show F1.eval (.tmp 2) = F0.eval (.tmp 2) by rw [hF]; exact evO (by decide)).trans e2_0
        have e7_1 := (show F1.eval (.tmp 7) = F0.eval (.tmp 7) by rw [hF]; exact evO (by decide)).trans e7_0
        have e19_1 : F1.eval (.tmp 19) = .bool true := by rw [hF]; exact evS (by rw [z0]; decide)
        have HF1 := Lib.hid hF
        clear hF e2_0 e7_0 e8_0
        refine tkT (i := 1) (oi := _) (v := .bool true) rfl (by kernel_rfl) (by kernel_rfl) (by kernel_rfl) (fun _ _ _ h => h) HS.out (wantedT rfl) (fun w _ => mvT rfl e19_1 w) ?_
        intro F2 hF
        replace hF : F2 = F1.put (some 20) (.bool true) := hF
        have z2 : F2.tmps.size = 31 := by rw [hF]; simpa [Act.put] using z1
        have e2_2 := (show F2.eval (.tmp 2) = F1.eval (.tmp 2) by rw [hF]; exact evO (by decide)).trans e2_1
        have e7_2 := (show F2.eval (.tmp 7) = F1.eval (.tmp 7) by rw [hF]; exact evO (by decide)).trans e7_1
        have e20_2 : F2.eval (.tmp 20) = .bool true := by rw [hF]; exact evS (by rw [z1]; decide)
        have HF2 := Lib.hid hF
        clear hF e2_1 e7_1 e19_1
        refine tkT (i := 2) (oi := _) (v := .agg cs.toArray) rfl (by kernel_rfl) (by kernel_rfl) (by kernel_rfl) (fun _ _ _ h => h) HS.out (by rw [wantedG (d := 20) rfl rfl e20_2 (by rw [z2]; decide)]; rfl) (fun w hs => lrT rfl e7_2 hs (d := .struct gs) HGS.out rfl (by rw [h7]; kernel_rfl)) ?_
        intro F3 hF
        replace hF : F3 = F2.put (some 21) (.agg cs.toArray) := hF
        have z3 : F3.tmps.size = 31 := by rw [hF]; simpa [Act.put] using z2
        have e2_3 := (show F3.eval (.tmp 2) = F2.eval (.tmp 2) by rw [hF]; exact evO (by decide)).trans e2_2
        have e20_3 := (show F3.eval (.tmp 20) = F2.eval (.tmp 20) by rw [hF]; exact evO (by decide)).trans e20_2
        have e21_3 : F3.eval (.tmp 21) = .agg cs.toArray := by rw [hF]; exact evS (by rw [z2]; decide)
        have HF3 := Lib.hid hF
        clear hF e2_2 e7_2 e20_2
        refine tkT (i := 4) (oi := _) (v := .int .i64 deep) rfl (by kernel_rfl) (by kernel_rfl) (by kernel_rfl) (fun _ _ _ h => h) HS.out (by rw [wantedG (d := 20) rfl rfl e20_3 (by rw [z3]; decide)]; rfl) (fun w _ => mvT rfl e2_3 w) ?_
        intro F4 hF
        replace hF : F4 = F3.put (some 23) (.int .i64 deep) := hF
        have z4 : F4.tmps.size = 31 := by rw [hF]; simpa [Act.put] using z3
        have e20_4 := (show F4.eval (.tmp 20) = F3.eval (.tmp 20) by rw [hF]; exact evO (by decide)).trans e20_3
        have e21_4 := (show F4.eval (.tmp 21) = F3.eval (.tmp 21) by rw [hF]; exact evO (by decide)).trans e21_3
        have e23_4 : F4.eval (.tmp 23) = .int .i64 deep := by rw [hF]; exact evS (by rw [z3]; decide)
        have HF4 := Lib.hid hF
        clear hF e2_3 e20_3 e21_3
        refine aloneT (i := 3) (oi := _) rfl (by kernel_rfl) (by rw [wantedG (d := 20) rfl rfl e20_4 (by rw [z4]; decide)]; rfl) ?_
        refine wpCall (clT (f := 45) (args := #[.agg cs.toArray]) rfl (by simp only [List.map_toArray, List.map_cons, List.map_nil, e21_4] <;> rfl) (fun args w => by kernel_rfl)) (fun v w' => v = .int .i64 (dep t : Int) ∧ Qt w3.drew w') ((HC.out w3.drew (Qt.refl w3).drew).mono (by rintro e w' ⟨rfl, q⟩; exact ⟨_, rfl, rfl, q⟩)) ?_
        rintro v w4 ⟨rfl, q4⟩
        refine ⟨rangeQt HS.out q4, genT fun F5 hF => ?_⟩
        have HS := Lib.hid (rangeQt HS.out q4)
        replace hF : F5 = F4.put (some 22) (.int .i64 (dep t : Int)) := hF
        have z5 : F5.tmps.size = 31 := by rw [hF]; simpa [Act.put] using z4
        have e20_5 := (show F5.eval (.tmp 20) = F4.eval (.tmp 20) by rw [hF]; exact evO (by decide)).trans e20_4
        have e22_5 : F5.eval (.tmp 22) = .int .i64 (dep t : Int) := by rw [hF]; exact evS (by rw [z4]; decide)
        have e23_5 := (show F5.eval (.tmp 23) = F4.eval (.tmp 23) by rw [hF]; exact evO (by decide)).trans e23_4
        have HF5 := Lib.hid hF
        clear hF e20_4 e21_4 e23_4
        refine tkT (i := 5) (oi := _) (v := .bool false) rfl (by kernel_rfl) (by kernel_rfl) (by kernel_rfl) (fun _ _ _ h => h) HS.out (by rw [wantedG (d := 20) rfl rfl e20_5 (by rw [z5]; decide)]; rfl) (fun w hs => boT rfl e22_5 e23_5 (by go_simp) (by go_simp)) ?_
        intro F6 hF
        replace hF : F6 = F5.put (some 24) (.bool false) := hF
        have z6 : F6.tmps.size = 31 := by rw [hF]; simpa [Act.put] using z5
        have e20_6 := (show F6.eval (.tmp 20) = F5.eval (.tmp 20) by rw [hF]; exact evO (by decide)).trans e20_5
        have e24_6 : F6.eval (.tmp 24) = .bool false := by rw [hF]; exact evS (by rw [z5]; decide)
        have HF6 := Lib.hid hF
        clear hF e20_5 e22_5 e23_5
        refine tkT (i := 6) (oi := _) (v := .bool false) rfl (by kernel_rfl) (by kernel_rfl) (by kernel_rfl) (fun _ _ _ h => h) HS.out (wantedT rfl) (fun w hs => pkT (vy := .bool false) rfl e20_6 e24_6 rfl w) ?_
        intro F7 hF
        replace hF : F7 = F6.put (some 25) (.bool false) := hF
        have z7 : F7.tmps.size = 31 := by rw [hF]; simpa [Act.put] using z6
        have e25_7 : F7.eval (.tmp 25) = .bool false := by rw [hF]; exact evS (by rw [z6]; decide)
        have HF7 := Lib.hid hF
        clear hF e20_6 e24_6
        refine tkT (i := 7) (oi := _) (v := .bool false) rfl (by kernel_rfl) (by kernel_rfl) (by kernel_rfl) (fun _ _ _ h => h) HS.out (wantedT rfl) (fun w _ => mvT rfl e25_7 w) ?_
        intro F8 hF
        replace hF : F8 = F7.put (some 26) (.bool false) := hF
        have z8 : F8.tmps.size = 31 := by rw [hF]; simpa [Act.put] using z7
        have e26_8 : F8.eval (.tmp 26) = .bool false := by rw [hF]; exact evS (by rw [z7]; decide)
        have HF8 := Lib.hid hF
        clear hF e25_7
        refine skT (i := 8) (oi := _) rfl (by kernel_rfl) (by kernel_rfl) (by kernel_rfl) (fun _ _ _ h => h) HS.out (by rw [wantedG (d := 26) rfl rfl e26_8 (by rw [z8]; decide)]; rfl) ?_
        intro F9 hF
        replace hF : F9 = F8.put (some 27) (undef) := hF
        have z9 : F9.tmps.size = 31 := by rw [hF]; simpa [Act.put] using z8
        have e26_9 := (show F9.eval (.tmp 26) = F8.eval (.tmp 26) by rw [hF]; exact evO (by decide)).trans e26_8
        have HF9 := Lib.hid hF
        clear hF e26_8
        refine skT (i := 9) (oi := _) rfl (by kernel_rfl) (by kernel_rfl) (by kernel_rfl) (fun _ _ _ h => h) HS.out (by rw [wantedG (d := 26) rfl rfl e26_9 (by rw [z9]; decide)]; rfl) ?_
        intro F10 hF
        replace hF : F10 = F9.put (some 28) (undef) := hF
        have z10 : F10.tmps.size = 31 := by rw [hF]; simpa [Act.put] using z9
        have e26_10 := (show F10.eval (.tmp 26) = F9.eval (.tmp 26) by rw [hF]; exact evO (by decide)).trans e26_9
        have HF10 := Lib.hid hF
        clear hF e26_9
        refine skT (i := 10) (oi := _) rfl (by kernel_rfl) (by kernel_rfl) (by kernel_rfl) (fun _ _ _ h => h) HS.out (by rw [wantedG (d := 26) rfl rfl e26_10 (by rw [z10]; decide)]; rfl) ?_
        intro F11 hF
        replace hF : F11 = F10.put (some 29) (undef) := hF
        have z11 : F11.tmps.size = 31 := by rw [hF]; simpa [Act.put] using z10
        have e26_11 := (show F11.eval (.tmp 26) = F10.eval (.tmp 26) by rw [hF]; exact evO (by decide)).trans e26_10
        have e29_11 : F11.eval (.tmp 29) = undef := by rw [hF]; exact evS (by rw [z10]; decide)
        have HF11 := Lib.hid hF
        clear hF e26_10
        refine tkT (i := 11) (oi := _) (v := .bool false) rfl (by kernel_rfl) (by kernel_rfl) (by kernel_rfl) (fun _ _ _ h => h) HS.out (wantedT rfl) (fun w hs => pkT (vy := .bool false) rfl e26_11 e29_11 rfl w) ?_
        intro F12 hF
        replace hF : F12 = F11.put (some 30) (.bool false) := hF
        have z12 : F12.tmps.size = 31 := by rw [hF]; simpa [Act.put] using z11
        have e30_12 : F12.eval (.tmp 30) = .bool false := by rw [hF]; exact evS (by rw [z11]; decide)
        have HF12 := Lib.hid hF
        clear hF e26_11 e29_11
        refine tkT (i := 12) (oi := _) (v := .bool false) rfl (by kernel_rfl) (by kernel_rfl) (by kernel_rfl) (fun _ _ _ h => h) HS.out (wantedT rfl) (fun w _ => asT rfl e30_12 w) ?_
        intro F13 hF
        replace hF : F13 = F12.put (some 6) (.bool false) := hF
        have z13 : F13.tmps.size = 31 := by rw [hF]; simpa [Act.put] using z12
        have HF13 := Lib.hid hF
        clear hF e30_12
        refine wpAnyH_done (by kernel_rfl) ?_ _
        rw [HF13.out, HF12.out, HF11.out, HF10.out, HF9.out, HF8.out, HF7.out, HF6.out, HF5.out, HF4.out, HF3.out, HF2.out, HF1.out, HA.out]
        simp only [Act.put, List.setIfInBounds_toArray, List.set_cons_succ, List.set_cons_zero]
        clear HF13 HF12 HF11 HF10 HF9 HF8 HF7 HF6 HF5 HF4 HF3 HF2 HF1 HA z13 z12 z11 z10 z9 z8 z7 z6 z5 z4 z3 z2 z1 z0 
        try go_wp2
        go_ret
        exact ⟨by rw [HDL.out, show decide ((dep t : Int) ≤ deep) = false from decide_eq_false (by have := HDD.out; omega)]; rfl, HQ3.out.trans ((Qt.refl w3).drew.trans q4)⟩
  · have g0 : decide (most < (l.length : Int)) = true := decide_eq_true (by omega)
    have H0 := Lib.hid (decide_eq_false h0)
    rw [H0.out, Bool.false_and] at HDL
    clear h0
    go_enter Try.func36, Try.ntmps36
    go_wp2
    go_ret
    exact ⟨by rw [HDL.out]; rfl, HQ1.out⟩
end Go.Proofs.Ytipgpnkdgofdeaa.Tm
