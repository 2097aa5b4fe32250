import Derived.Test.YtipgpnkdgofdeaaKP
import Derived.Test.YtipgpnkdgofdeaaKL
/-! TermTree, printed by gentt.py. -/
namespace Go.Proofs.Ytipgpnkdgofdeaa.Tm
open Go.RowKit Go.Proofs.Ytipgpnkdgofdeaa.Fl
set_option linter.unusedVariables false
set_option linter.unusedSimpArgs false

theorem Lies.ne {w : World} {ok : Nat → Prop} {v : Value} {l : List Nd} {g : Nat} (h : Lies w ok v l) (hb : Blk w g 24 [.slice none 0 0]) : Lies w (fun k => ok k ∧ k ≠ g) v l := by
  obtain ⟨A, c, rfl, hc, h⟩ := h
  refine ⟨A, c, rfl, hc, fun h0 => ?_⟩
  obtain ⟨b, off, rfl, hok, hx⟩ := h h0
  refine ⟨b, off, rfl, ⟨hok, fun e => ?_⟩, hx⟩
  subst e
  cases l with
  | nil => exact h0 rfl
  | cons n l =>
    have h1 := hx 0 (.int .i64 n.f0) rfl
    rw [hb.cell] at h1
    rcases off with _ | off
    · simp at h1
    · simp at h1
theorem Lies.og {w w' : World} {v : Value} {l : List Nd} {g : Nat} (h : Lies w (fun k => k < w.heap.size) v l) (hb : Blk w g 24 [.slice none 0 0]) (og : Og g w w') (hz : w.heap.size = w'.heap.size) : Lies w' (fun k => k < w'.heap.size) v l :=
  ((h.ne hb).move fun k hk hk2 => og.block k hk (fun e => hk2.2 (by cases e; rfl))).mono fun k hk => hz ▸ hk.1
theorem wantedB {ops : Array Oper} {o : Oper} {a : Act} {j d : Nat} {want b : Bool} (hg : o.guard = some (j, want)) (hd : (ops[j]?).bind (·.dst) = some d) (hv : a.tmps[d]? = some (.bool b)) : Region.wanted o (yielded ops a.tmps) = (b == want) := by
  unfold Region.wanted yielded
  rw [hg]
  simp only [hd, Option.bind_some, hv]
  cases b <;> cases want <;> rfl
theorem armSkip {P : Program} {ops : Array Oper} {rest : List Oper} {o : Oper} {a : Act} {w : World} {Q : Exit → Act → World → Prop} {j d : Nat} {want b : Bool} (hg : o.guard = some (j, want)) (hd : (ops[j]?).bind (·.dst) = some d) (hv : a.tmps[d]? = some (.bool b))
    (hb : (b == want) = false) (h : wpList P ops Q rest (a.put o.dst undef) w) : wpList P ops Q (o :: rest) a w :=
  wpList_step fun K hK => by rw [if_neg (by rw [wantedB hg hd hv, hb]; decide)]; exact hK _ _ h
theorem noT {P : Program} {o : Oper} {a : Act} {t : TypeId} {x : Operand} {b : Bool} {w : World} (ho : o.op = .unOp .not t x) (hx : a.eval x = .bool b) : (execOp a.eval o).run P w = .ok (.value (.bool (!b))) w := by
  unfold execOp
  simp only [ho, hx]
  cases b <;> rfl
set_option maxRecDepth 100000 in
set_option maxHeartbeats 20000000 in
theorem termTree_any (a : List Nd) (n : Nd) (u1 : Value) (w : World) (ha : Lies w (fun k => k < w.heap.size) u1 a) (la : a.length ≤ 140737488351232) (sa : SzL a) (wa : WfL a) (hn : Wd n.f2) (sn : n.f3.size ≤ 140737488351232) :
    Calls Try.prog 7 #[.agg #[u1], .agg (ndc n).toArray] w fun e w' => e = .returned (.bool true) ∧ Qt w w' := by
  obtain ⟨ts, hts⟩ : ∃ fs, Try.prog.underlying 24 = some (.struct fs) := ⟨_, Try.underlying24⟩
  obtain ⟨ns, hns⟩ : ∃ fs, Try.prog.underlying 32 = some (.struct fs) := ⟨_, Try.underlying32⟩
  obtain ⟨P1, c1, rfl⟩ := ha.form
  have HTS := Lib.hid hts
  have HNS := Lib.hid hns
  have LA := Lib.hid ha
  have HLA := Lib.hid la
  have HSA := Lib.hid sa
  have HWA := Lib.hid wa
  have HN := Lib.hid hn
  have q0 : Qt w ((w.alloc (.cells #[.slice P1 a.length c1] 24)).alloc (.cells (ndc n).toArray 32)) := ((Qt.refl w).alloc _).alloc _
  have b2 : Blk ((w.alloc (.cells #[.slice P1 a.length c1] 24)).alloc (.cells (ndc n).toArray 32)) (w.heap.size) 24 [.slice P1 a.length c1] := (show Blk (w.alloc (.cells #[.slice P1 a.length c1] 24)) (w.heap.size) 24 [.slice P1 a.length c1] from heap_alloc_new w _).alloc _
  have b3 : Blk ((w.alloc (.cells #[.slice P1 a.length c1] 24)).alloc (.cells (ndc n).toArray 32)) (w.heap.size + 1) 32 (ndc n) := by have h := heap_alloc_new (w.alloc (.cells #[.slice P1 a.length c1] 24)) (.cells (ndc n).toArray 32); rw [show (w.alloc (.cells #[.slice P1 a.length c1] 24)).heap.size = w.heap.size + 1 from by simp] at h; exact h
  have HB2 := Lib.hid b2; have HB3 := Lib.hid b3
  have Q0 := Lib.hid q0
  clear hts hns ha la sa wa hn b2 b3 q0
  go_enter Try.func7, Try.ntmps7
  go_wp2_with fail
  refine (awake_any _).mono ?_
  rintro e w1 ⟨rfl, q1⟩
  have HB2 := Lib.hid (HB2.out.qt q1); have HB3 := Lib.hid (HB3.out.qt q1)
  have Q0 := Lib.hid (Q0.out.trans q1)
  have LA := Lib.hid (LA.out.up Q0.out)
  have QX := Lib.hid (Qt.refl w1)
  clear q1
  go_wp2_with (first
    | (refine armSkip rfl rfl rfl rfl ?_)
    | (refine armLdG 24 (.tmp 2) rfl (w.heap.size) rfl (HB2.out.qt QX.out) (.struct ts) HTS.out rfl (by kernel_rfl) (by first | exact wantedT rfl | exact (wantedB rfl rfl rfl).trans rfl) ?_))
  refine (termOf_any a _ _ 300 _ (by decide) (by decide) (by have := HLA.out; omega) HSA.out LA.out).mono ?_
  rintro e wb ⟨r, rfl, hr0, -, hall, q4⟩
  have QB := Lib.hid (QX.out.trans q4)
  have c7 : wb.cell? ⟨w.heap.size + 1, 3, none⟩ = some (.string n.f3) := (HB3.out.qt QB.out).cell 3
  have HALL := Lib.hid hall
  clear q4 hall
  by_cases hr : 300 < r
  · go_wp2
    go_ret
    exact ⟨rfl, Q0.out.trans QB.out⟩
  by_cases hn3 : (300 : Int) < (n.f3.size : Int)
  · go_wp2
    go_ret
    exact ⟨rfl, Q0.out.trans QB.out⟩
  have hla : a.length ≤ 300 := by have := HALL.out (by omega); omega
  have HLA := Lib.hid hla
  have HB2 := Lib.hid (HB2.out.qt QB.out); have HB3 := Lib.hid (HB3.out.qt QB.out)
  have LA := Lib.hid (LA.out.up QB.out)
  have Q0 := Lib.hid (Q0.out.trans QB.out)
  have QX := Lib.hid (Qt.refl wb)
  clear hla HALL QB
  have HDE := Lib.hid (fun (w' : World) (q : Qt wb w') => Deep_any a _ _ w' (by have := HLA.out; omega) (LA.out.up q) (fun _ h => h))
  have HSM := Lib.hid (fun (w' : World) (q : Qt wb w') => Same_any a a _ _ _ _ w' (by have := HLA.out; omega) (by have := HLA.out; omega) (LA.out.up q) (LA.out.up q) (fun _ h => h) (fun _ h => h))
  have HKS := Lib.hid (fun (w' : World) (q : Qt wb w') => kids_any a _ _ w' (by have := HLA.out; omega) (LA.out.up q) (fun _ h => h))
  have HRI := Lib.hid (fun (w' : World) (q : Qt wb w') => Right_any' a _ _ w' (by have := HLA.out; omega) (LA.out.up q) (fun _ h => h))
  have HKD := Lib.hid (fun (w' : World) (q : Qt wb w') (i : Int) => kid_any a _ _ w' (by have := HLA.out; omega) (LA.out.up q) (fun _ h => h) i)
  cases ho : opn a with
  | none =>
    have hno := tree_none ho
    obtain ⟨hk0, hk1, hf0, hs0, hd0⟩ := hno
    have HDE := Lib.hid (fun (w' : World) (q : Qt wb w') => show Calls Try.prog 17 #[.agg #[.slice P1 a.length c1]] w' (fun e w'' => e = .returned (.int .i64 0) ∧ Qt w' w'') from by have h := HDE.out w' q; rw [hd0] at h; exact h)
    have HSM := Lib.hid (fun (w' : World) (q : Qt wb w') => show Calls Try.prog 18 #[.agg #[.slice P1 a.length c1], .agg #[.slice P1 a.length c1]] w' (fun e w'' => e = .returned (.bool false) ∧ Qt w' w'') from by have h := HSM.out w' q; rw [hs0] at h; exact h)
    have HRI := Lib.hid (fun (w' : World) (q : Qt wb w') => show Calls Try.prog 15 #[.agg #[.slice P1 a.length c1]] w' (fun e w'' => e = .returned (.bool false) ∧ Qt w' w'') from by have h := HRI.out w' q; rw [hf0] at h; exact h)
    have HKS := Lib.hid (fun (w' : World) (q : Qt wb w') => show Calls Try.prog 30 #[.agg #[.slice P1 a.length c1]] w' (fun e w'' => ∃ A c, e = .returned (.slice A 0 c) ∧ Qt w' w'') from (HKS.out w' q).mono (by rintro e w'' ⟨A, c, rfl, -, q⟩; rw [hk0]; exact ⟨A, c, rfl, q⟩))
    have HKD := Lib.hid (fun (w' : World) (q : Qt wb w') => show Calls Try.prog 31 #[.agg #[.slice P1 a.length c1], .int .i64 0] w' (fun e w'' => ∃ A c x, e = .returned (.tuple #[.agg #[.slice A (x : List Nd).length c], .bool false]) ∧ Qt w' w'') from (HKD.out w' q 0).mono (by rintro e w'' ⟨A, c, x, rfl, -, -, q⟩; rw [hk1]; exact ⟨A, c, x, rfl, q⟩))
    clear hk0 hk1 hf0 hs0 hd0 ho
    go_wp2_with (first
      | (refine armSkip rfl rfl rfl rfl ?_)
      | (refine armLdG 24 (.tmp 2) rfl (w.heap.size) rfl (HB2.out.qt QX.out) (.struct ts) HTS.out rfl (by kernel_rfl) (by first | exact wantedT rfl | exact (wantedB rfl rfl rfl).trans rfl) ?_))
    refine (HKS.out _ QX.out).mono ?_
    rintro e w2 ⟨KA, kc, rfl, q2⟩
    have QX := Lib.hid (QX.out.trans q2)
    clear q2
    go_wp2_with (first
      | (refine armSkip rfl rfl rfl rfl ?_)
      | (refine armLdG 24 (.tmp 2) rfl (w.heap.size) rfl (HB2.out.qt QX.out) (.struct ts) HTS.out rfl (by kernel_rfl) (by first | exact wantedT rfl | exact (wantedB rfl rfl rfl).trans rfl) ?_))
    refine (HDE.out _ QX.out).mono ?_
    rintro e w3 ⟨rfl, q2⟩
    have QX := Lib.hid (QX.out.trans q2)
    clear q2
    go_wp2_with (first
      | (refine armSkip rfl rfl rfl rfl ?_)
      | (refine armLdG 24 (.tmp 2) rfl (w.heap.size) rfl (HB2.out.qt QX.out) (.struct ts) HTS.out rfl (by kernel_rfl) (by first | exact wantedT rfl | exact (wantedB rfl rfl rfl).trans rfl) ?_))
    refine (HKD.out _ QX.out).mono ?_
    rintro e w4 ⟨A4, c4, x4, rfl, q2⟩
    have QX := Lib.hid (QX.out.trans q2)
    clear q2
    go_wp2_with (first
      | (refine armSkip rfl rfl rfl rfl ?_)
      | (refine armLdG 24 (.tmp 2) rfl (w.heap.size) rfl (HB2.out.qt QX.out) (.struct ts) HTS.out rfl (by kernel_rfl) (by first | exact wantedT rfl | exact (wantedB rfl rfl rfl).trans rfl) ?_)
      | (refine armSt rfl 24 (.tmp 6) (.tmp 39) rfl w4.heap.size [.slice A4 x4.length c4] rfl rfl (t := 24) (old := [.slice none 0 0]) (heap_alloc_new w4 _) (by kernel_rfl) rfl (by intro u hu; rw [List.mem_singleton.1 hu]; rfl) ?_; intro w5 og5 hz5 hb5; (have q5 : Qt w4 w5 := og5.qt ((Qt.refl w4).alloc _) (Nat.le_refl _)); (have QX := Lib.hid (QX.out.trans q5)); clear og5 hz5 hb5 q5))
    refine (HRI.out _ QX.out).mono ?_
    rintro e w6 ⟨rfl, q2⟩
    have QX := Lib.hid (QX.out.trans q2)
    clear q2
    go_wp2_with (first
      | (refine armSkip rfl rfl rfl rfl ?_)
      | (refine armLdG 24 (.tmp 2) rfl (w.heap.size) rfl (HB2.out.qt QX.out) (.struct ts) HTS.out rfl (by kernel_rfl) (by first | exact wantedT rfl | exact (wantedB rfl rfl rfl).trans rfl) ?_))
    refine (HSM.out _ QX.out).mono ?_
    rintro e w7 ⟨rfl, q2⟩
    have QX := Lib.hid (QX.out.trans q2)
    clear q2
    go_wp2_with fail
    go_ret
    exact ⟨rfl, Q0.out.trans QX.out⟩
  | some t =>
    obtain ⟨nd, ks⟩ := t
    have HOP := Lib.hid ho
    have HC4 := Lib.hid (show (ndc nd)[4]? = some (.int .i64 (ks.length : Int)) by rw [← tree_count ho]; rfl)
    have hlk : kidsL a = ks.map Tr.flat := tree_kids ho
    have HDE := Lib.hid (fun (w' : World) (q : Qt wb w') => show Calls Try.prog 17 #[.agg #[.slice P1 a.length c1]] w' (fun e w'' => e = .returned (.int .i64 ((deps ks : Int) + 1)) ∧ Qt w' w'') from by have h := HDE.out w' q; rw [tree_deep ho] at h; exact h)
    have HSM := Lib.hid (fun (w' : World) (q : Qt wb w') => show Calls Try.prog 18 #[.agg #[.slice P1 a.length c1], .agg #[.slice P1 a.length c1]] w' (fun e w'' => e = .returned (.bool true) ∧ Qt w' w'') from by have h := HSM.out w' q; rw [tree_same ho HWA.out] at h; exact h)
    have HKS := Lib.hid (fun (w' : World) (q : Qt wb w') => show Calls Try.prog 30 #[.agg #[.slice P1 a.length c1]] w' (fun e w'' => ∃ A c, e = .returned (.slice A ks.length c) ∧ TermsIn w'' A (ks.map Tr.flat) ∧ Qt w' w'') from (HKS.out w' q).mono (by rintro e w'' ⟨A, c, rfl, ht, q⟩; rw [hlk] at ht ⊢; exact ⟨A, c, by rw [List.length_map], ht, q⟩))
    have HKJ := Lib.hid (fun (w' : World) (q : Qt wb w') (j : Nat) (k : Tr) (hk : ks[j]? = some k) => show Calls Try.prog 31 #[.agg #[.slice P1 a.length c1], .int .i64 (j : Int)] w' (fun e w'' => ∃ A c, e = .returned (.tuple #[.agg #[.slice A k.flat.length c], .bool true]) ∧ Lies w'' (fun k => k < w''.heap.size) (.slice A k.flat.length c) k.flat ∧ Qt w' w'') from (HKD.out w' q j).mono (by rintro e w'' ⟨A, c, x, rfl, hl, hx, q⟩; rw [tree_kid_at ho, hk] at hx ⊢; obtain rfl := hx _ rfl; exact ⟨A, c, rfl, hl, q⟩))
    have HKE := Lib.hid (fun (w' : World) (q : Qt wb w') => show Calls Try.prog 31 #[.agg #[.slice P1 a.length c1], .int .i64 (ks.length : Int)] w' (fun e w'' => ∃ A c x, e = .returned (.tuple #[.agg #[.slice A (x : List Nd).length c], .bool false]) ∧ Qt w' w'') from (HKD.out w' q ks.length).mono (by rintro e w'' ⟨A, c, x, rfl, -, -, q⟩; rw [tree_kid_at ho, List.getElem?_eq_none (Nat.le_refl _)]; exact ⟨A, c, x, rfl, q⟩))
    have HKM := Lib.hid (fun (w' : World) (q : Qt wb w') => show Calls Try.prog 31 #[.agg #[.slice P1 a.length c1], .int .i64 (-1)] w' (fun e w'' => ∃ A c x, e = .returned (.tuple #[.agg #[.slice A (x : List Nd).length c], .bool false]) ∧ Qt w' w'') from (HKD.out w' q (-1)).mono (by rintro e w'' ⟨A, c, x, rfl, -, -, q⟩; exact ⟨A, c, x, rfl, q⟩))
    have hkl : ks.length ≤ 300 := by have := flats_len ks; have h := opn_flat ho; have := HLA.out; rw [h, Tr.flat, List.length_cons] at this; omega
    have hdl : deps ks ≤ 300 := by have := deps_le ks; have h := opn_flat ho; have := HLA.out; rw [h, Tr.flat, List.length_cons] at this; omega
    have HKF := Lib.hid (fun (k : Tr) (hk : k ∈ ks) => show k.flat.length ≤ 300 by have := kid_lt (n := nd) hk; have h := opn_flat ho; have := HLA.out; rw [h] at this; omega)
    have hap : 1 ≤ a.length := by rw [opn_flat ho]; exact flat_pos _
    have HAP := Lib.hid hap
    clear ho hlk hap
    go_wp2_with (first
      | (refine armSkip rfl rfl rfl rfl ?_)
      | (refine armLdG 24 (.tmp 2) rfl (w.heap.size) rfl (HB2.out.qt QX.out) (.struct ts) HTS.out rfl (by kernel_rfl) (by first | exact wantedT rfl | exact (wantedB rfl rfl rfl).trans rfl) ?_))
    refine (HKS.out _ QX.out).mono ?_
    rintro e wk ⟨KA, kc, rfl, hti, q2⟩
    have HTI := Lib.hid hti
    have QX := Lib.hid (QX.out.trans q2)
    clear q2 hti
    go_wp2_with (first
      | (refine armSkip rfl rfl rfl rfl ?_)
      | (refine armLdG 24 (.tmp 2) rfl (w.heap.size) rfl (HB2.out.qt QX.out) (.struct ts) HTS.out rfl (by kernel_rfl) (by first | exact wantedT rfl | exact (wantedB rfl rfl rfl).trans rfl) ?_))
    refine (HDE.out _ QX.out).mono ?_
    rintro e w3 ⟨rfl, q2⟩
    have gd : (((deps ks : Int) + 1) == 0) = false := by simp; omega
    have HTI := Lib.hid (HTI.out.qt q2)
    have QX := Lib.hid (QX.out.trans q2)
    clear q2
    go_wp2_with fail
    have HQ3 := Lib.hid QX.out
    clear QX
    go_loopw [8, 9] (fun dp i wr => ∃ j : Nat, j ≤ ks.length ∧ dp = .int .i64 (deps (ks.take j) : Int) ∧ i = .int .i64 (j : Int) ∧ Qt w3 wr) (fun _ i _ => ks.length - (intOf i).toNat)
    case atStart => exact ⟨0, by omega, rfl, rfl, Qt.refl _⟩
    case round =>
      obtain ⟨j, hj, rfl, rfl, hq⟩ := hrel
      have hdj : deps (ks.take j) ≤ 300 := by
        have e := deps_app (ks.take j) (ks.drop j)
        rw [List.take_append_drop] at e
        omega
      have HQR := Lib.hid hq
      have QX := Lib.hid (HQ3.out.trans hq)
      clear hq
      by_cases hlt : j < ks.length
      · obtain ⟨k, hk⟩ : ∃ k, ks[j]? = some k := ⟨_, List.getElem?_eq_getElem hlt⟩
        have hkm := List.mem_of_getElem? hk
        obtain ⟨b, off, rfl, B, d, hcell, hli⟩ := HTI.out j k.flat (by rw [List.getElem?_map, hk]; rfl)
        have hkf := HKF.out k hkm
        have HDK := Lib.hid (fun (w' : World) (q : Qt w3 w') => show Calls Try.prog 17 #[.agg #[.slice B k.flat.length d]] w' (fun e w'' => e = .returned (.int .i64 (dep k : Int)) ∧ Qt w' w'') from by have h := Deep_any k.flat _ _ w' (by omega) (hli.up q) (fun _ h => h); rw [tree_kid_deep HOP.out hkm] at h; exact h)
        have hrg : w3.rangeAt b (off + j) [.slice B k.flat.length d] := fun i u hu => by
          match i, hu with
          | 0, hu => cases hu; exact hcell
        have HRG := Lib.hid hrg
        have HLI := Lib.hid hli
        have HKFK := Lib.hid hkf
        have HKK := Lib.hid hk
        have HDT := Lib.hid (deps_take hk)
        have hdk : dep k ≤ 300 := by have := dep_le k; omega
        have hdp : ¬ (dep k : Int) < 1 := by have := dep_pos k; omega
        clear hcell hli hrg hk hkm hkf
        go_wp2_with (first
          | (refine armSkip rfl rfl rfl rfl ?_)
          | (refine armLdG 24 (.tmp 2) rfl (w.heap.size) rfl (HB2.out.qt (HQ3.out.trans HQR.out)) (.struct ts) HTS.out rfl (by kernel_rfl) (by first | exact wantedT rfl | exact (wantedB rfl rfl rfl).trans rfl) ?_))
        refine (HKJ.out _ QX.out j k HKK.out).mono ?_
        rintro e w4 ⟨A4, c4, rfl, hl4, q4⟩
        have HL4 := Lib.hid hl4
        have HQ4 := Lib.hid (HQR.out.trans q4)
        clear hl4 q4
        go_wp2_with (first
          | (refine armSkip rfl rfl rfl rfl ?_)
          | (refine armSt rfl 24 (.tmp 10) (.tmp 69) rfl w4.heap.size [.slice A4 k.flat.length c4] rfl rfl (t := 24) (old := [.slice none 0 0]) (heap_alloc_new w4 _) (by kernel_rfl) rfl (by intro u hu; rw [List.mem_singleton.1 hu]; rfl) ?_; intro w5 og5 hz5 hb5; (have q5 : Qt w4 w5 := og5.qt ((Qt.refl w4).alloc _) (Nat.le_refl _)); (have HQ5 := Lib.hid (HQ4.out.trans q5)); (have HB5 := Lib.hid hb5); (have HL5 := Lib.hid (HL4.out.up q5)); clear og5 hz5 hb5 q5)
          | (refine armLm rfl 24 (.tmp 73) rfl b (off + j) rfl (rangeQt HRG.out HQ5.out) (.struct ts) HTS.out rfl (by kernel_rfl) ?_))
        refine (HDK.out _ HQ5.out).mono ?_
        rintro e w6 ⟨rfl, q6⟩
        have HB5 := Lib.hid (HB5.out.qt q6)
        have HL5 := Lib.hid (HL5.out.up q6)
        have HQ6 := Lib.hid (HQ5.out.trans q6)
        clear q6
        go_wp2_with fail
        refine wp_region_held (S := (fun u => u.rangeAt w4.heap.size 0 [.slice A4 k.flat.length c4] ∧ u.rangeAt b (off + j) [.slice B k.flat.length d])) (by kernel_rfl) ?_
        change wpAnyH _ _ _ _ _ _ _ _ (World.drew _)
        refine genT fun F0 hA => ?_
        have z0 : F0.tmps.size = 180 := by rw [hA]; rfl
        have e5_0 : F0.eval (.tmp 5) = .slice (some ⟨b, off, none⟩) ks.length kc := by rw [hA]; rfl
        have e9_0 : F0.eval (.tmp 9) = .int .i64 (j : Int) := by rw [hA]; rfl
        have e10_0 : F0.eval (.tmp 10) = .pointer (some ⟨w4.heap.size, 0, none⟩) := by rw [hA]; rfl
        have e11_0 : F0.eval (.tmp 11) = .bool true := by rw [hA]; rfl
        have e12_0 : F0.eval (.tmp 12) = .int .i64 (dep k : Int) := by rw [hA]; rfl
        have HA := Lib.hid hA
        clear hA
        have HS := Lib.hid (show World.rangeAt (World.drew _) _ _ _ ∧ World.rangeAt (World.drew _) _ _ _ from ⟨(show Blk (World.drew _) _ _ _ from (HB5.out.qt (Qt.refl w6).drew)).range 0 [.slice A4 k.flat.length c4] rfl, rangeQt HRG.out HQ6.out.drew⟩)
        refine tkT (i := 0) (oi := _) (v := .bool true) rfl (by kernel_rfl) (by kernel_rfl) (by kernel_rfl) (fun _ _ _ h => h) HS.out (wantedT rfl) (fun w _ => mvT rfl e11_0 w) ?_
        intro F1 hF
        replace hF : F1 = F0.put (some 76) (.bool true) := hF
        have z1 : F1.tmps.size = 180 := by rw [hF]; simpa [Act.put] using z0
        have e5_1 := (show F1.eval (.tmp 5) = F0.eval (.tmp 5) by rw [hF]; exact evO (by decide)).trans e5_0
        have e9_1 := (show F1.eval (.tmp 9) = F0.eval (.tmp 9) by rw [hF]; exact evO (by decide)).trans e9_0
        have e10_1 := (show F1.eval (.tmp 10) = F0.eval (.tmp 10) by rw [hF]; exact evO (by decide)).trans e10_0
        have e12_1 := (show F1.eval (.tmp 12) = F0.eval (.tmp 12) by rw [hF]; exact evO (by decide)).trans e12_0
        have e76_1 : F1.eval (.tmp 76) = .bool true := by rw [hF]; exact evS (by rw [z0]; decide)
        have HF1 := Lib.hid hF
        clear hF e5_0 e9_0 e10_0 e11_0 e12_0
        refine tkT (i := 1) (oi := _) (v := .bool false) rfl (by kernel_rfl) (by kernel_rfl) (by kernel_rfl) (fun _ _ _ h => h) HS.out (wantedT rfl) (fun w hs => noT rfl e76_1) ?_
        intro F2 hF
        replace hF : F2 = F1.put (some 77) (.bool false) := hF
        have z2 : F2.tmps.size = 180 := by rw [hF]; simpa [Act.put] using z1
        have e5_2 := (show F2.eval (.tmp 5) = F1.eval (.tmp 5) by rw [hF]; exact evO (by decide)).trans e5_1
        have e9_2 := (show F2.eval (.tmp 9) = F1.eval (.tmp 9) by rw [hF]; exact evO (by decide)).trans e9_1
        have e10_2 := (show F2.eval (.tmp 10) = F1.eval (.tmp 10) by rw [hF]; exact evO (by decide)).trans e10_1
        have e12_2 := (show F2.eval (.tmp 12) = F1.eval (.tmp 12) by rw [hF]; exact evO (by decide)).trans e12_1
        have e77_2 : F2.eval (.tmp 77) = .bool false := by rw [hF]; exact evS (by rw [z1]; decide)
        have HF2 := Lib.hid hF
        clear hF e5_1 e9_1 e10_1 e12_1 e76_1
        refine tkT (i := 2) (oi := _) (v := .bool false) rfl (by kernel_rfl) (by kernel_rfl) (by kernel_rfl) (fun _ _ _ h => h) HS.out (wantedT rfl) (fun w _ => mvT rfl e77_2 w) ?_
        intro F3 hF
        replace hF : F3 = F2.put (some 78) (.bool false) := hF
        have z3 : F3.tmps.size = 180 := by rw [hF]; simpa [Act.put] using z2
        have e5_3 := (show F3.eval (.tmp 5) = F2.eval (.tmp 5) by rw [hF]; exact evO (by decide)).trans e5_2
        have e9_3 := (show F3.eval (.tmp 9) = F2.eval (.tmp 9) by rw [hF]; exact evO (by decide)).trans e9_2
        have e10_3 := (show F3.eval (.tmp 10) = F2.eval (.tmp 10) by rw [hF]; exact evO (by decide)).trans e10_2
        have e12_3 := (show F3.eval (.tmp 12) = F2.eval (.tmp 12) by rw [hF]; exact evO (by decide)).trans e12_2
        have e78_3 : F3.eval (.tmp 78) = .bool false := by rw [hF]; exact evS (by rw [z2]; decide)
        have HF3 := Lib.hid hF
        clear hF e5_2 e9_2 e10_2 e12_2 e77_2
        refine tkT (i := 3) (oi := _) (v := .int .i64 (dep k : Int)) rfl (by kernel_rfl) (by kernel_rfl) (by kernel_rfl) (fun _ _ _ h => h) HS.out (by rw [wantedG (d := 78) rfl rfl e78_3 (by rw [z3]; decide)]; rfl) (fun w _ => mvT rfl e12_3 w) ?_
        intro F4 hF
        replace hF : F4 = F3.put (some 79) (.int .i64 (dep k : Int)) := hF
        have z4 : F4.tmps.size = 180 := by rw [hF]; simpa [Act.put] using z3
        have e5_4 := (show F4.eval (.tmp 5) = F3.eval (.tmp 5) by rw [hF]; exact evO (by decide)).trans e5_3
        have e9_4 := (show F4.eval (.tmp 9) = F3.eval (.tmp 9) by rw [hF]; exact evO (by decide)).trans e9_3
        have e10_4 := (show F4.eval (.tmp 10) = F3.eval (.tmp 10) by rw [hF]; exact evO (by decide)).trans e10_3
        have e78_4 := (show F4.eval (.tmp 78) = F3.eval (.tmp 78) by rw [hF]; exact evO (by decide)).trans e78_3
        have e79_4 : F4.eval (.tmp 79) = .int .i64 (dep k : Int) := by rw [hF]; exact evS (by rw [z3]; decide)
        have HF4 := Lib.hid hF
        clear hF e5_3 e9_3 e10_3 e12_3 e78_3
        refine tkT (i := 4) (oi := _) (v := .bool false) rfl (by kernel_rfl) (by kernel_rfl) (by kernel_rfl) (fun _ _ _ h => h) HS.out (by rw [wantedG (d := 78) rfl rfl e78_4 (by rw [z4]; decide)]; rfl) (fun w hs => boT rfl e79_4 rfl (by go_simp) (by go_simp)) ?_
        intro F5 hF
        replace hF : F5 = F4.put (some 80) (.bool false) := hF
        have z5 : F5.tmps.size = 180 := by rw [hF]; simpa [Act.put] using z4
        have e5_5 := (show F5.eval (.tmp 5) = F4.eval (.tmp 5) by rw [hF]; exact evO (by decide)).trans e5_4
        have e9_5 := (show F5.eval (.tmp 9) = F4.eval (.tmp 9) by rw [hF]; exact evO (by decide)).trans e9_4
        have e10_5 := (show F5.eval (.tmp 10) = F4.eval (.tmp 10) by rw [hF]; exact evO (by decide)).trans e10_4
        have e78_5 := (show F5.eval (.tmp 78) = F4.eval (.tmp 78) by rw [hF]; exact evO (by decide)).trans e78_4
        have e80_5 : F5.eval (.tmp 80) = .bool false := by rw [hF]; exact evS (by rw [z4]; decide)
        have HF5 := Lib.hid hF
        clear hF e5_4 e9_4 e10_4 e78_4 e79_4
        refine tkT (i := 5) (oi := _) (v := .bool false) rfl (by kernel_rfl) (by kernel_rfl) (by kernel_rfl) (fun _ _ _ h => h) HS.out (wantedT rfl) (fun w hs => pkT (vx := .bool true) rfl e78_5 rfl e80_5 w) ?_
        intro F6 hF
        replace hF : F6 = F5.put (some 81) (.bool false) := hF
        have z6 : F6.tmps.size = 180 := by rw [hF]; simpa [Act.put] using z5
        have e5_6 := (show F6.eval (.tmp 5) = F5.eval (.tmp 5) by rw [hF]; exact evO (by decide)).trans e5_5
        have e9_6 := (show F6.eval (.tmp 9) = F5.eval (.tmp 9) by rw [hF]; exact evO (by decide)).trans e9_5
        have e10_6 := (show F6.eval (.tmp 10) = F5.eval (.tmp 10) by rw [hF]; exact evO (by decide)).trans e10_5
        have e81_6 : F6.eval (.tmp 81) = .bool false := by rw [hF]; exact evS (by rw [z5]; decide)
        have HF6 := Lib.hid hF
        clear hF e5_5 e9_5 e10_5 e78_5 e80_5
        refine tkT (i := 6) (oi := _) (v := .bool false) rfl (by kernel_rfl) (by kernel_rfl) (by kernel_rfl) (fun _ _ _ h => h) HS.out (wantedT rfl) (fun w _ => mvT rfl e81_6 w) ?_
        intro F7 hF
        replace hF : F7 = F6.put (some 82) (.bool false) := hF
        have z7 : F7.tmps.size = 180 := by rw [hF]; simpa [Act.put] using z6
        have e5_7 := (show F7.eval (.tmp 5) = F6.eval (.tmp 5) by rw [hF]; exact evO (by decide)).trans e5_6
        have e9_7 := (show F7.eval (.tmp 9) = F6.eval (.tmp 9) by rw [hF]; exact evO (by decide)).trans e9_6
        have e10_7 := (show F7.eval (.tmp 10) = F6.eval (.tmp 10) by rw [hF]; exact evO (by decide)).trans e10_6
        have e82_7 : F7.eval (.tmp 82) = .bool false := by rw [hF]; exact evS (by rw [z6]; decide)
        have HF7 := Lib.hid hF
        clear hF e5_6 e9_6 e10_6 e81_6
        refine tkT (i := 7) (oi := _) (v := .agg #[.slice A4 k.flat.length c4]) rfl (by kernel_rfl) (by kernel_rfl) (by kernel_rfl) (fun _ _ _ h => h) HS.out (by rw [wantedG (d := 82) rfl rfl e82_7 (by rw [z7]; decide)]; rfl) (fun w hs => lrT rfl e10_7 hs.1 (d := .struct ts) HTS.out rfl (by kernel_rfl)) ?_
        intro F8 hF
        replace hF : F8 = F7.put (some 83) (.agg #[.slice A4 k.flat.length c4]) := hF
        have z8 : F8.tmps.size = 180 := by rw [hF]; simpa [Act.put] using z7
        have e5_8 := (show F8.eval (.tmp 5) = F7.eval (.tmp 5) by rw [hF]; exact evO (by decide)).trans e5_7
        have e9_8 := (show F8.eval (.tmp 9) = F7.eval (.tmp 9) by rw [hF]; exact evO (by decide)).trans e9_7
        have e82_8 := (show F8.eval (.tmp 82) = F7.eval (.tmp 82) by rw [hF]; exact evO (by decide)).trans e82_7
        have e83_8 : F8.eval (.tmp 83) = .agg #[.slice A4 k.flat.length c4] := by rw [hF]; exact evS (by rw [z7]; decide)
        have HF8 := Lib.hid hF
        clear hF e5_7 e9_7 e10_7 e82_7
        refine tkT (i := 8) (oi := _) (v := .slice (some ⟨b, off, none⟩) ks.length kc) rfl (by kernel_rfl) (by kernel_rfl) (by kernel_rfl) (fun _ _ _ h => h) HS.out (by rw [wantedG (d := 82) rfl rfl e82_8 (by rw [z8]; decide)]; rfl) (fun w _ => mvT rfl e5_8 w) ?_
        intro F9 hF
        replace hF : F9 = F8.put (some 84) (.slice (some ⟨b, off, none⟩) ks.length kc) := hF
        have z9 : F9.tmps.size = 180 := by rw [hF]; simpa [Act.put] using z8
        have e9_9 := (show F9.eval (.tmp 9) = F8.eval (.tmp 9) by rw [hF]; exact evO (by decide)).trans e9_8
        have e82_9 := (show F9.eval (.tmp 82) = F8.eval (.tmp 82) by rw [hF]; exact evO (by decide)).trans e82_8
        have e83_9 := (show F9.eval (.tmp 83) = F8.eval (.tmp 83) by rw [hF]; exact evO (by decide)).trans e83_8
        have e84_9 : F9.eval (.tmp 84) = .slice (some ⟨b, off, none⟩) ks.length kc := by rw [hF]; exact evS (by rw [z8]; decide)
        have HF9 := Lib.hid hF
        clear hF e5_8 e9_8 e82_8 e83_8
        refine tkT (i := 9) (oi := _) (v := .int .i64 (j : Int)) rfl (by kernel_rfl) (by kernel_rfl) (by kernel_rfl) (fun _ _ _ h => h) HS.out (by rw [wantedG (d := 82) rfl rfl e82_9 (by rw [z9]; decide)]; rfl) (fun w _ => mvT rfl e9_9 w) ?_
        intro F10 hF
        replace hF : F10 = F9.put (some 85) (.int .i64 (j : Int)) := hF
        have z10 : F10.tmps.size = 180 := by rw [hF]; simpa [Act.put] using z9
        have e82_10 := (show F10.eval (.tmp 82) = F9.eval (.tmp 82) by rw [hF]; exact evO (by decide)).trans e82_9
        have e83_10 := (show F10.eval (.tmp 83) = F9.eval (.tmp 83) by rw [hF]; exact evO (by decide)).trans e83_9
        have e84_10 := (show F10.eval (.tmp 84) = F9.eval (.tmp 84) by rw [hF]; exact evO (by decide)).trans e84_9
        have e85_10 : F10.eval (.tmp 85) = .int .i64 (j : Int) := by rw [hF]; exact evS (by rw [z9]; decide)
        have HF10 := Lib.hid hF
        clear hF e9_9 e82_9 e83_9 e84_9
        refine tkT (i := 10) (oi := _) (v := .pointer (some ⟨b, off + j, none⟩)) rfl (by kernel_rfl) (by kernel_rfl) (by kernel_rfl) (fun _ _ _ h => h) HS.out (by rw [wantedG (d := 82) rfl rfl e82_10 (by rw [z10]; decide)]; rfl) (fun w _ => iaT rfl e84_10 e85_10 (by go_simp)) ?_
        intro F11 hF
        replace hF : F11 = F10.put (some 86) (.pointer (some ⟨b, off + j, none⟩)) := hF
        have z11 : F11.tmps.size = 180 := by rw [hF]; simpa [Act.put] using z10
        have e82_11 := (show F11.eval (.tmp 82) = F10.eval (.tmp 82) by rw [hF]; exact evO (by decide)).trans e82_10
        have e83_11 := (show F11.eval (.tmp 83) = F10.eval (.tmp 83) by rw [hF]; exact evO (by decide)).trans e83_10
        have e86_11 : F11.eval (.tmp 86) = .pointer (some ⟨b, off + j, none⟩) := by rw [hF]; exact evS (by rw [z10]; decide)
        have HF11 := Lib.hid hF
        clear hF e82_10 e83_10 e84_10 e85_10
        refine tkT (i := 11) (oi := _) (v := .agg #[.slice B k.flat.length d]) rfl (by kernel_rfl) (by kernel_rfl) (by kernel_rfl) (fun _ _ _ h => h) HS.out (by rw [wantedG (d := 82) rfl rfl e82_11 (by rw [z11]; decide)]; rfl) (fun w hs => lrT rfl e86_11 hs.2 (d := .struct ts) HTS.out rfl (by kernel_rfl)) ?_
        intro F12 hF
        replace hF : F12 = F11.put (some 87) (.agg #[.slice B k.flat.length d]) := hF
        have z12 : F12.tmps.size = 180 := by rw [hF]; simpa [Act.put] using z11
        have e82_12 := (show F12.eval (.tmp 82) = F11.eval (.tmp 82) by rw [hF]; exact evO (by decide)).trans e82_11
        have e83_12 := (show F12.eval (.tmp 83) = F11.eval (.tmp 83) by rw [hF]; exact evO (by decide)).trans e83_11
        have e87_12 : F12.eval (.tmp 87) = .agg #[.slice B k.flat.length d] := by rw [hF]; exact evS (by rw [z11]; decide)
        have HF12 := Lib.hid hF
        clear hF e82_11 e83_11 e86_11
        refine aloneT (i := 12) (oi := _) rfl (by kernel_rfl) (by rw [wantedG (d := 82) rfl rfl e82_12 (by rw [z12]; decide)]; rfl) ?_
        refine wpCall (clT (f := 16) (args := #[.agg #[.slice A4 k.flat.length c4], .agg #[.slice B k.flat.length d]]) rfl (by simp only [List.map_toArray, List.map_cons, List.map_nil, e83_12, e87_12] <;> rfl) (fun args w => by kernel_rfl)) (fun v w' => v = .bool true ∧ Qt w6.drew w') ((sameTerm_any k.flat k.flat _ _ _ _ _ (by have := HKFK.out; omega) (by have := HKFK.out; omega) (HL5.out.up (Qt.refl w6).drew) (HLI.out.up HQ6.out.drew)).mono (by rintro e w' ⟨r, rfl, hr, q⟩; exact ⟨_, rfl, by rw [hr.2 rfl], q⟩)) ?_
        rintro v w8 ⟨rfl, qw8⟩
        refine ⟨And.intro (rangeQt HS.out.1 qw8) (rangeQt HS.out.2 qw8), genT fun F13 hF => ?_⟩
        have HS := Lib.hid (And.intro (rangeQt HS.out.1 qw8) (rangeQt HS.out.2 qw8))
        replace hF : F13 = F12.put (some 88) (.bool true) := hF
        have z13 : F13.tmps.size = 180 := by rw [hF]; simpa [Act.put] using z12
        have e82_13 := (show F13.eval (.tmp 82) = F12.eval (.tmp 82) by rw [hF]; exact evO (by decide)).trans e82_12
        have e88_13 : F13.eval (.tmp 88) = .bool true := by rw [hF]; exact evS (by rw [z12]; decide)
        have HF13 := Lib.hid hF
        clear hF e82_12 e83_12 e87_12
        refine tkT (i := 13) (oi := _) (v := .bool false) rfl (by kernel_rfl) (by kernel_rfl) (by kernel_rfl) (fun _ _ _ h => h) HS.out (by rw [wantedG (d := 82) rfl rfl e82_13 (by rw [z13]; decide)]; rfl) (fun w hs => noT rfl e88_13) ?_
        intro F14 hF
        replace hF : F14 = F13.put (some 89) (.bool false) := hF
        have z14 : F14.tmps.size = 180 := by rw [hF]; simpa [Act.put] using z13
        have e82_14 := (show F14.eval (.tmp 82) = F13.eval (.tmp 82) by rw [hF]; exact evO (by decide)).trans e82_13
        have e89_14 : F14.eval (.tmp 89) = .bool false := by rw [hF]; exact evS (by rw [z13]; decide)
        have HF14 := Lib.hid hF
        clear hF e82_13 e88_13
        refine tkT (i := 14) (oi := _) (v := .bool false) rfl (by kernel_rfl) (by kernel_rfl) (by kernel_rfl) (fun _ _ _ h => h) HS.out (wantedT rfl) (fun w hs => pkT (vx := .bool true) rfl e82_14 rfl e89_14 w) ?_
        intro F15 hF
        replace hF : F15 = F14.put (some 90) (.bool false) := hF
        have z15 : F15.tmps.size = 180 := by rw [hF]; simpa [Act.put] using z14
        have HF15 := Lib.hid hF
        clear hF e82_14 e89_14
        refine wpAnyH_done (by kernel_rfl) ?_ _
        rw [HF15.out, HF14.out, HF13.out, HF12.out, HF11.out, HF10.out, HF9.out, HF8.out, HF7.out, HF6.out, HF5.out, HF4.out, HF3.out, HF2.out, HF1.out, HA.out]
        simp only [Act.put, List.setIfInBounds_toArray, List.set_cons_succ, List.set_cons_zero]
        clear HF15 HF14 HF13 HF12 HF11 HF10 HF9 HF8 HF7 HF6 HF5 HF4 HF3 HF2 HF1 HA z15 z14 z13 z12 z11 z10 z9 z8 z7 z6 z5 z4 z3 z2 z1 z0 
        go_wp2_with fail
        refine ⟨⟨j + 1, by omega, ?_, by go_num, HQ6.out.trans ((Qt.refl _).drew.trans qw8)⟩, by simp [intOf]; omega⟩
        rw [HDT.out]
        congr 1
        omega
      · obtain rfl : j = ks.length := by omega
        rw [List.take_length] at *
        clear hlt hj
        go_wp2_with (first
          | (refine armSkip rfl rfl rfl rfl ?_)
          | (refine armLdG 24 (.tmp 2) rfl (w.heap.size) rfl (HB2.out.qt QX.out) (.struct ts) HTS.out rfl (by kernel_rfl) (by first | exact wantedT rfl | exact (wantedB rfl rfl rfl).trans rfl) ?_))
        refine (HKE.out _ QX.out).mono ?_
        rintro e wa ⟨Aa, ca, xa, rfl, q2⟩
        have QR := Lib.hid (Qt.refl wr)
        have QX := Lib.hid (QX.out.trans q2); have QR := Lib.hid (QR.out.trans q2)
        clear q2
        go_wp2_with (first
          | (refine armSkip rfl rfl rfl rfl ?_)
          | (refine armLdG 24 (.tmp 2) rfl (w.heap.size) rfl (HB2.out.qt QX.out) (.struct ts) HTS.out rfl (by kernel_rfl) (by first | exact wantedT rfl | exact (wantedB rfl rfl rfl).trans rfl) ?_)
          | (refine armSt rfl 24 (.tmp 13) (.tmp 99) rfl wa.heap.size [.slice Aa xa.length ca] rfl rfl (t := 24) (old := [.slice none 0 0]) (heap_alloc_new wa _) (by kernel_rfl) rfl (by intro u hu; rw [List.mem_singleton.1 hu]; rfl) ?_; intro w9 og5 hz5 hb5; (have q5 : Qt wa w9 := og5.qt ((Qt.refl wa).alloc _) (Nat.le_refl _)); (have QX := Lib.hid (QX.out.trans q5)); (have QR := Lib.hid (QR.out.trans q5)); clear og5 hz5 hb5 q5))
        refine (HKM.out _ QX.out).mono ?_
        rintro e wc ⟨Ac, cc, xc, rfl, q2⟩
        have QX := Lib.hid (QX.out.trans q2); have QR := Lib.hid (QR.out.trans q2)
        clear q2
        go_wp2_with (first
          | (refine armSkip rfl rfl rfl rfl ?_)
          | (refine armLdG 24 (.tmp 2) rfl (w.heap.size) rfl (HB2.out.qt QX.out) (.struct ts) HTS.out rfl (by kernel_rfl) (by first | exact wantedT rfl | exact (wantedB rfl rfl rfl).trans rfl) ?_)
          | (refine armLdG 32 (.tmp 3) rfl (w.heap.size + 1) rfl (HB3.out.qt QX.out) (.struct ns) HNS.out rfl (by kernel_rfl) (by first | exact wantedT rfl | exact (wantedB rfl rfl rfl).trans rfl) ?_)
          | (refine armSt rfl 24 (.tmp 15) (.tmp 104) rfl wc.heap.size [.slice Ac xc.length cc] rfl rfl (t := 24) (old := [.slice none 0 0]) (heap_alloc_new wc _) (by kernel_rfl) rfl (by intro u hu; rw [List.mem_singleton.1 hu]; rfl) ?_; intro w9 og5 hz5 hb5; (have q5 : Qt wc w9 := og5.qt ((Qt.refl wc).alloc _) (Nat.le_refl _)); (have QX := Lib.hid (QX.out.trans q5)); (have QR := Lib.hid (QR.out.trans q5)); clear og5 hz5 hb5 q5)
          | (refine armTs 2 _ rfl _ rfl [.slice P1 a.length c1, .slice P1 a.length c1] (fun w => by go_simp) rfl ?_; intro wg g3 q3 hg3 hb3; (have TM := Lib.hid (terms2 hb3 (LA.out.up (QX.out.trans q3)) (LA.out.up (QX.out.trans q3)))); (have QX := Lib.hid (QX.out.trans q3)); (have QR := Lib.hid (QR.out.trans q3)); clear q3 hg3 hb3))
        refine (join_any n [a, a] _ 2 _ (by show 2 ≤ 1000; decide) (by have := HLA.out; simp only [List.flatten_cons, List.flatten_nil, List.length_append, List.length_nil]; omega) TM.out).mono ?_
        rintro e wj ⟨UA, uc, rfl, lu, q2⟩
        have HLU := Lib.hid lu.lt
        have QX := Lib.hid (QX.out.trans q2); have QR := Lib.hid (QR.out.trans q2)
        clear q2 lu TM
        go_wp2_with (first
          | (refine armSkip rfl rfl rfl rfl ?_)
          | (refine armSt rfl 24 (.tmp 17) (.tmp 110) rfl wj.heap.size [.slice UA (joinL n [a, a]).length uc] rfl rfl (t := 24) (old := [.slice none 0 0]) (heap_alloc_new wj _) (by kernel_rfl) rfl (by intro u hu; rw [List.mem_singleton.1 hu]; rfl) ?_; intro w9 og5 hz5 hb5; (have q5 : Qt wj w9 := og5.qt ((Qt.refl wj).alloc _) (Nat.le_refl _)); (have QX := Lib.hid (QX.out.trans q5)); (have QR := Lib.hid (QR.out.trans q5)); (have HBU := Lib.hid hb5); (have HLU := Lib.hid (HLU.out.up q5)); clear og5 hz5 hb5 q5))
        have HFK := Lib.hid (show (ks.map Tr.flat).flatten.length ≤ 100000 by rw [← flats_flat]; have h := opn_flat HOP.out; have := HLA.out; rw [h, Tr.flat, List.length_cons] at this; omega)
        have HP1 := LA.out
        obtain ⟨A', c', e', -, hx⟩ := HP1
        cases e'
        obtain ⟨b0, off0, e0, -, hx0⟩ := hx (fun e => by have := HAP.out; rw [e] at this; simp at this)
        have HP1 := Lib.hid e0
        have hn0 : wb.rangeAt b0 off0 (ndc nd) := fun i u hu => hx0 i u (by
          have h := opn_flat HOP.out
          rw [h, Tr.flat]
          unfold ndcs
          rw [List.flatMap_cons, List.getElem?_append_left (List.getElem?_eq_some_iff.1 hu).1]
          exact hu)
        have HN0 := Lib.hid hn0
        clear hx hx0 e0 hn0
        refine wp_region_held (S := (fun u => u.rangeAt (w.heap.size) 0 [.slice P1 a.length c1] ∧ u.rangeAt b0 off0 (ndc nd) ∧ u.rangeAt wj.heap.size 0 [.slice UA (joinL n [a, a]).length uc])) (by kernel_rfl) ?_
        change wpAnyH _ _ _ _ _ _ _ _ (World.drew _)
        refine genT fun F0 hA => ?_
        have z0 : F0.tmps.size = 180 := by rw [hA]; rfl
        have e2_0 : F0.eval (.tmp 2) = .pointer (some ⟨w.heap.size, 0, none⟩) := by rw [hA]; rfl
        have e5_0 : F0.eval (.tmp 5) = .slice KA ks.length kc := by rw [hA]; rfl
        have e8_0 : F0.eval (.tmp 8) = .int .i64 (deps ks : Int) := by rw [hA]; rfl
        have e14_0 : F0.eval (.tmp 14) = .bool false := by rw [hA]; rfl
        have e16_0 : F0.eval (.tmp 16) = .bool false := by rw [hA]; rfl
        have e17_0 : F0.eval (.tmp 17) = .pointer (some ⟨wj.heap.size, 0, none⟩) := by rw [hA]; rfl
        have HA := Lib.hid hA
        clear hA
        have HS := Lib.hid (show World.rangeAt (World.drew _) _ _ _ ∧ World.rangeAt (World.drew _) _ _ _ ∧ World.rangeAt (World.drew _) _ _ _ from ⟨(show Blk (World.drew _) _ _ _ from (HB2.out.qt QX.out.drew)).range 0 [.slice P1 a.length c1] rfl, rangeQt HN0.out QX.out.drew, (show Blk (World.drew _) _ _ _ from (HBU.out.qt (Qt.refl w9).drew)).range 0 [.slice UA (joinL n [a, a]).length uc] rfl⟩)
        refine tkT (i := 0) (oi := _) (v := .bool false) rfl (by kernel_rfl) (by kernel_rfl) (by kernel_rfl) (fun _ _ _ h => h) HS.out (wantedT rfl) (fun w _ => mvT rfl e14_0 w) ?_
        intro F1 hF
        replace hF : F1 = F0.put (some 111) (.bool false) := hF
        have z1 : F1.tmps.size = 180 := by rw [hF]; simpa [Act.put] using z0
        have e2_1 := (show F1.eval (.tmp 2) = F0.eval (.tmp 2) by rw [hF]; exact evO (by decide)).trans e2_0
        have e5_1 := (show F1.eval (.tmp 5) = F0.eval (.tmp 5) by rw [hF]; exact evO (by decide)).trans e5_0
        have e8_1 := (show F1.eval (.tmp 8) = F0.eval (.tmp 8) by rw [hF]; exact evO (by decide)).trans e8_0
        have e16_1 := (show F1.eval (.tmp 16) = F0.eval (.tmp 16) by rw [hF]; exact evO (by decide)).trans e16_0
        have e17_1 := (show F1.eval (.tmp 17) = F0.eval (.tmp 17) by rw [hF]; exact evO (by decide)).trans e17_0
        have e111_1 : F1.eval (.tmp 111) = .bool false := by rw [hF]; exact evS (by rw [z0]; decide)
        have HF1 := Lib.hid hF
        clear hF e2_0 e5_0 e8_0 e14_0 e16_0 e17_0
        refine tkT (i := 1) (oi := _) (v := .bool false) rfl (by kernel_rfl) (by kernel_rfl) (by kernel_rfl) (fun _ _ _ h => h) HS.out (wantedT rfl) (fun w _ => mvT rfl e111_1 w) ?_
        intro F2 hF
        replace hF : F2 = F1.put (some 112) (.bool false) := hF
        have z2 : F2.tmps.size = 180 := by rw [hF]; simpa [Act.put] using z1
        have e2_2 := (show F2.eval (.tmp 2) = F1.eval (.tmp 2) by rw [hF]; exact evO (by decide)).trans e2_1
        have e5_2 := (show F2.eval (.tmp 5) = F1.eval (.tmp 5) by rw [hF]; exact evO (by decide)).trans e5_1
        have e8_2 := (show F2.eval (.tmp 8) = F1.eval (.tmp 8) by rw [hF]; exact evO (by decide)).trans e8_1
        have e16_2 := (show F2.eval (.tmp 16) = F1.eval (.tmp 16) by rw [hF]; exact evO (by decide)).trans e16_1
        have e17_2 := (show F2.eval (.tmp 17) = F1.eval (.tmp 17) by rw [hF]; exact evO (by decide)).trans e17_1
        have e112_2 : F2.eval (.tmp 112) = .bool false := by rw [hF]; exact evS (by rw [z1]; decide)
        have HF2 := Lib.hid hF
        clear hF e2_1 e5_1 e8_1 e16_1 e17_1 e111_1
        refine tkT (i := 2) (oi := _) (v := .bool false) rfl (by kernel_rfl) (by kernel_rfl) (by kernel_rfl) (fun _ _ _ h => h) HS.out (by rw [wantedG (d := 112) rfl rfl e112_2 (by rw [z2]; decide)]; rfl) (fun w _ => mvT rfl e16_2 w) ?_
        intro F3 hF
        replace hF : F3 = F2.put (some 113) (.bool false) := hF
        have z3 : F3.tmps.size = 180 := by rw [hF]; simpa [Act.put] using z2
        have e2_3 := (show F3.eval (.tmp 2) = F2.eval (.tmp 2) by rw [hF]; exact evO (by decide)).trans e2_2
        have e5_3 := (show F3.eval (.tmp 5) = F2.eval (.tmp 5) by rw [hF]; exact evO (by decide)).trans e5_2
        have e8_3 := (show F3.eval (.tmp 8) = F2.eval (.tmp 8) by rw [hF]; exact evO (by decide)).trans e8_2
        have e17_3 := (show F3.eval (.tmp 17) = F2.eval (.tmp 17) by rw [hF]; exact evO (by decide)).trans e17_2
        have e112_3 := (show F3.eval (.tmp 112) = F2.eval (.tmp 112) by rw [hF]; exact evO (by decide)).trans e112_2
        have e113_3 : F3.eval (.tmp 113) = .bool false := by rw [hF]; exact evS (by rw [z2]; decide)
        have HF3 := Lib.hid hF
        clear hF e2_2 e5_2 e8_2 e16_2 e17_2 e112_2
        refine tkT (i := 3) (oi := _) (v := .bool false) rfl (by kernel_rfl) (by kernel_rfl) (by kernel_rfl) (fun _ _ _ h => h) HS.out (wantedT rfl) (fun w hs => pkT (vx := .bool true) rfl e112_3 rfl e113_3 w) ?_
        intro F4 hF
        replace hF : F4 = F3.put (some 114) (.bool false) := hF
        have z4 : F4.tmps.size = 180 := by rw [hF]; simpa [Act.put] using z3
        have e2_4 := (show F4.eval (.tmp 2) = F3.eval (.tmp 2) by rw [hF]; exact evO (by decide)).trans e2_3
        have e5_4 := (show F4.eval (.tmp 5) = F3.eval (.tmp 5) by rw [hF]; exact evO (by decide)).trans e5_3
        have e8_4 := (show F4.eval (.tmp 8) = F3.eval (.tmp 8) by rw [hF]; exact evO (by decide)).trans e8_3
        have e17_4 := (show F4.eval (.tmp 17) = F3.eval (.tmp 17) by rw [hF]; exact evO (by decide)).trans e17_3
        have e114_4 : F4.eval (.tmp 114) = .bool false := by rw [hF]; exact evS (by rw [z3]; decide)
        have HF4 := Lib.hid hF
        clear hF e2_3 e5_3 e8_3 e17_3 e112_3 e113_3
        refine tkT (i := 4) (oi := _) (v := .bool false) rfl (by kernel_rfl) (by kernel_rfl) (by kernel_rfl) (fun _ _ _ h => h) HS.out (wantedT rfl) (fun w _ => mvT rfl e114_4 w) ?_
        intro F5 hF
        replace hF : F5 = F4.put (some 115) (.bool false) := hF
        have z5 : F5.tmps.size = 180 := by rw [hF]; simpa [Act.put] using z4
        have e2_5 := (show F5.eval (.tmp 2) = F4.eval (.tmp 2) by rw [hF]; exact evO (by decide)).trans e2_4
        have e5_5 := (show F5.eval (.tmp 5) = F4.eval (.tmp 5) by rw [hF]; exact evO (by decide)).trans e5_4
        have e8_5 := (show F5.eval (.tmp 8) = F4.eval (.tmp 8) by rw [hF]; exact evO (by decide)).trans e8_4
        have e17_5 := (show F5.eval (.tmp 17) = F4.eval (.tmp 17) by rw [hF]; exact evO (by decide)).trans e17_4
        have e115_5 : F5.eval (.tmp 115) = .bool false := by rw [hF]; exact evS (by rw [z4]; decide)
        have HF5 := Lib.hid hF
        clear hF e2_4 e5_4 e8_4 e17_4 e114_4
        refine tkT (i := 5) (oi := _) (v := .agg #[.slice P1 a.length c1]) rfl (by kernel_rfl) (by kernel_rfl) (by kernel_rfl) (fun _ _ _ h => h) HS.out (by rw [wantedG (d := 115) rfl rfl e115_5 (by rw [z5]; decide)]; rfl) (fun w hs => lrT rfl e2_5 hs.1 (d := .struct ts) HTS.out rfl (by kernel_rfl)) ?_
        intro F6 hF
        replace hF : F6 = F5.put (some 116) (.agg #[.slice P1 a.length c1]) := hF
        have z6 : F6.tmps.size = 180 := by rw [hF]; simpa [Act.put] using z5
        have e2_6 := (show F6.eval (.tmp 2) = F5.eval (.tmp 2) by rw [hF]; exact evO (by decide)).trans e2_5
        have e5_6 := (show F6.eval (.tmp 5) = F5.eval (.tmp 5) by rw [hF]; exact evO (by decide)).trans e5_5
        have e8_6 := (show F6.eval (.tmp 8) = F5.eval (.tmp 8) by rw [hF]; exact evO (by decide)).trans e8_5
        have e17_6 := (show F6.eval (.tmp 17) = F5.eval (.tmp 17) by rw [hF]; exact evO (by decide)).trans e17_5
        have e115_6 := (show F6.eval (.tmp 115) = F5.eval (.tmp 115) by rw [hF]; exact evO (by decide)).trans e115_5
        have e116_6 : F6.eval (.tmp 116) = .agg #[.slice P1 a.length c1] := by rw [hF]; exact evS (by rw [z5]; decide)
        have HF6 := Lib.hid hF
        clear hF e2_5 e5_5 e8_5 e17_5 e115_5
        refine tkT (i := 7) (oi := _) (v := .int .i64 (deps ks : Int)) rfl (by kernel_rfl) (by kernel_rfl) (by kernel_rfl) (fun _ _ _ h => h) HS.out (by rw [wantedG (d := 115) rfl rfl e115_6 (by rw [z6]; decide)]; rfl) (fun w _ => mvT rfl e8_6 w) ?_
        intro F7 hF
        replace hF : F7 = F6.put (some 118) (.int .i64 (deps ks : Int)) := hF
        have z7 : F7.tmps.size = 180 := by rw [hF]; simpa [Act.put] using z6
        have e2_7 := (show F7.eval (.tmp 2) = F6.eval (.tmp 2) by rw [hF]; exact evO (by decide)).trans e2_6
        have e5_7 := (show F7.eval (.tmp 5) = F6.eval (.tmp 5) by rw [hF]; exact evO (by decide)).trans e5_6
        have e8_7 := (show F7.eval (.tmp 8) = F6.eval (.tmp 8) by rw [hF]; exact evO (by decide)).trans e8_6
        have e17_7 := (show F7.eval (.tmp 17) = F6.eval (.tmp 17) by rw [hF]; exact evO (by decide)).trans e17_6
        have e115_7 := (show F7.eval (.tmp 115) = F6.eval (.tmp 115) by rw [hF]; exact evO (by decide)).trans e115_6
        have e116_7 := (show F7.eval (.tmp 116) = F6.eval (.tmp 116) by rw [hF]; exact evO (by decide)).trans e116_6
        have e118_7 : F7.eval (.tmp 118) = .int .i64 (deps ks : Int) := by rw [hF]; exact evS (by rw [z6]; decide)
        have HF7 := Lib.hid hF
        clear hF e2_6 e5_6 e8_6 e17_6 e115_6 e116_6
        refine tkT (i := 8) (oi := _) (v := .int .i64 ((deps ks : Int) + 1)) rfl (by kernel_rfl) (by kernel_rfl) (by kernel_rfl) (fun _ _ _ h => h) HS.out (by rw [wantedG (d := 115) rfl rfl e115_7 (by rw [z7]; decide)]; rfl) (fun w hs => boT rfl e118_7 rfl (by go_simp) (by go_simp; first | done | (rw [IntKind.wrap_i64]; omega) | go_num)) ?_
        intro F8 hF
        replace hF : F8 = F7.put (some 119) (.int .i64 ((deps ks : Int) + 1)) := hF
        have z8 : F8.tmps.size = 180 := by rw [hF]; simpa [Act.put] using z7
        have e2_8 := (show F8.eval (.tmp 2) = F7.eval (.tmp 2) by rw [hF]; exact evO (by decide)).trans e2_7
        have e5_8 := (show F8.eval (.tmp 5) = F7.eval (.tmp 5) by rw [hF]; exact evO (by decide)).trans e5_7
        have e8_8 := (show F8.eval (.tmp 8) = F7.eval (.tmp 8) by rw [hF]; exact evO (by decide)).trans e8_7
        have e17_8 := (show F8.eval (.tmp 17) = F7.eval (.tmp 17) by rw [hF]; exact evO (by decide)).trans e17_7
        have e115_8 := (show F8.eval (.tmp 115) = F7.eval (.tmp 115) by rw [hF]; exact evO (by decide)).trans e115_7
        have e116_8 := (show F8.eval (.tmp 116) = F7.eval (.tmp 116) by rw [hF]; exact evO (by decide)).trans e116_7
        have e119_8 : F8.eval (.tmp 119) = .int .i64 ((deps ks : Int) + 1) := by rw [hF]; exact evS (by rw [z7]; decide)
        have HF8 := Lib.hid hF
        clear hF e2_7 e5_7 e8_7 e17_7 e115_7 e116_7 e118_7
        refine aloneT (i := 6) (oi := _) rfl (by kernel_rfl) (by rw [wantedG (d := 115) rfl rfl e115_8 (by rw [z8]; decide)]; rfl) ?_
        refine wpCall (clT (f := 17) (args := #[.agg #[.slice P1 a.length c1]]) rfl (by simp only [List.map_toArray, List.map_cons, List.map_nil, e116_8] <;> rfl) (fun args w => by kernel_rfl)) (fun v w' => v = .int .i64 ((deps ks : Int) + 1) ∧ Qt w9.drew w') ((HDE.out _ QX.out.drew).mono (by rintro e w' ⟨rfl, q⟩; exact ⟨_, rfl, rfl, q⟩)) ?_
        rintro v w10 ⟨rfl, qw10⟩
        refine ⟨And.intro (rangeQt HS.out.1 qw10) (And.intro (rangeQt HS.out.2.1 qw10) (rangeQt HS.out.2.2 qw10)), genT fun F9 hF => ?_⟩
        have HS := Lib.hid (And.intro (rangeQt HS.out.1 qw10) (And.intro (rangeQt HS.out.2.1 qw10) (rangeQt HS.out.2.2 qw10)))
        replace hF : F9 = F8.put (some 117) (.int .i64 ((deps ks : Int) + 1)) := hF
        have z9 : F9.tmps.size = 180 := by rw [hF]; simpa [Act.put] using z8
        have e2_9 := (show F9.eval (.tmp 2) = F8.eval (.tmp 2) by rw [hF]; exact evO (by decide)).trans e2_8
        have e5_9 := (show F9.eval (.tmp 5) = F8.eval (.tmp 5) by rw [hF]; exact evO (by decide)).trans e5_8
        have e8_9 := (show F9.eval (.tmp 8) = F8.eval (.tmp 8) by rw [hF]; exact evO (by decide)).trans e8_8
        have e17_9 := (show F9.eval (.tmp 17) = F8.eval (.tmp 17) by rw [hF]; exact evO (by decide)).trans e17_8
        have e115_9 := (show F9.eval (.tmp 115) = F8.eval (.tmp 115) by rw [hF]; exact evO (by decide)).trans e115_8
        have e117_9 : F9.eval (.tmp 117) = .int .i64 ((deps ks : Int) + 1) := by rw [hF]; exact evS (by rw [z8]; decide)
        have e119_9 := (show F9.eval (.tmp 119) = F8.eval (.tmp 119) by rw [hF]; exact evO (by decide)).trans e119_8
        have HF9 := Lib.hid hF
        clear hF e2_8 e5_8 e8_8 e17_8 e115_8 e116_8 e119_8
        refine tkT (i := 9) (oi := _) (v := .bool false) rfl (by kernel_rfl) (by kernel_rfl) (by kernel_rfl) (fun _ _ _ h => h) HS.out (by rw [wantedG (d := 115) rfl rfl e115_9 (by rw [z9]; decide)]; rfl) (fun w hs => boT rfl e117_9 e119_9 (by go_simp) (by go_simp)) ?_
        intro F10 hF
        replace hF : F10 = F9.put (some 120) (.bool false) := hF
        have z10 : F10.tmps.size = 180 := by rw [hF]; simpa [Act.put] using z9
        have e2_10 := (show F10.eval (.tmp 2) = F9.eval (.tmp 2) by rw [hF]; exact evO (by decide)).trans e2_9
        have e5_10 := (show F10.eval (.tmp 5) = F9.eval (.tmp 5) by rw [hF]; exact evO (by decide)).trans e5_9
        have e8_10 := (show F10.eval (.tmp 8) = F9.eval (.tmp 8) by rw [hF]; exact evO (by decide)).trans e8_9
        have e17_10 := (show F10.eval (.tmp 17) = F9.eval (.tmp 17) by rw [hF]; exact evO (by decide)).trans e17_9
        have e115_10 := (show F10.eval (.tmp 115) = F9.eval (.tmp 115) by rw [hF]; exact evO (by decide)).trans e115_9
        have e120_10 : F10.eval (.tmp 120) = .bool false := by rw [hF]; exact evS (by rw [z9]; decide)
        have HF10 := Lib.hid hF
        clear hF e2_9 e5_9 e8_9 e17_9 e115_9 e117_9 e119_9
        refine tkT (i := 10) (oi := _) (v := .bool false) rfl (by kernel_rfl) (by kernel_rfl) (by kernel_rfl) (fun _ _ _ h => h) HS.out (wantedT rfl) (fun w hs => pkT (vx := .bool true) rfl e115_10 rfl e120_10 w) ?_
        intro F11 hF
        replace hF : F11 = F10.put (some 121) (.bool false) := hF
        have z11 : F11.tmps.size = 180 := by rw [hF]; simpa [Act.put] using z10
        have e2_11 := (show F11.eval (.tmp 2) = F10.eval (.tmp 2) by rw [hF]; exact evO (by decide)).trans e2_10
        have e5_11 := (show F11.eval (.tmp 5) = F10.eval (.tmp 5) by rw [hF]; exact evO (by decide)).trans e5_10
        have e8_11 := (show F11.eval (.tmp 8) = F10.eval (.tmp 8) by rw [hF]; exact evO (by decide)).trans e8_10
        have e17_11 := (show F11.eval (.tmp 17) = F10.eval (.tmp 17) by rw [hF]; exact evO (by decide)).trans e17_10
        have e121_11 : F11.eval (.tmp 121) = .bool false := by rw [hF]; exact evS (by rw [z10]; decide)
        have HF11 := Lib.hid hF
        clear hF e2_10 e5_10 e8_10 e17_10 e115_10 e120_10
        refine tkT (i := 11) (oi := _) (v := .bool false) rfl (by kernel_rfl) (by kernel_rfl) (by kernel_rfl) (fun _ _ _ h => h) HS.out (wantedT rfl) (fun w _ => mvT rfl e121_11 w) ?_
        intro F12 hF
        replace hF : F12 = F11.put (some 122) (.bool false) := hF
        have z12 : F12.tmps.size = 180 := by rw [hF]; simpa [Act.put] using z11
        have e2_12 := (show F12.eval (.tmp 2) = F11.eval (.tmp 2) by rw [hF]; exact evO (by decide)).trans e2_11
        have e5_12 := (show F12.eval (.tmp 5) = F11.eval (.tmp 5) by rw [hF]; exact evO (by decide)).trans e5_11
        have e8_12 := (show F12.eval (.tmp 8) = F11.eval (.tmp 8) by rw [hF]; exact evO (by decide)).trans e8_11
        have e17_12 := (show F12.eval (.tmp 17) = F11.eval (.tmp 17) by rw [hF]; exact evO (by decide)).trans e17_11
        have e122_12 : F12.eval (.tmp 122) = .bool false := by rw [hF]; exact evS (by rw [z11]; decide)
        have HF12 := Lib.hid hF
        clear hF e2_11 e5_11 e8_11 e17_11 e121_11
        refine tkT (i := 12) (oi := _) (v := .slice KA ks.length kc) rfl (by kernel_rfl) (by kernel_rfl) (by kernel_rfl) (fun _ _ _ h => h) HS.out (by rw [wantedG (d := 122) rfl rfl e122_12 (by rw [z12]; decide)]; rfl) (fun w _ => mvT rfl e5_12 w) ?_
        intro F13 hF
        replace hF : F13 = F12.put (some 123) (.slice KA ks.length kc) := hF
        have z13 : F13.tmps.size = 180 := by rw [hF]; simpa [Act.put] using z12
        have e2_13 := (show F13.eval (.tmp 2) = F12.eval (.tmp 2) by rw [hF]; exact evO (by decide)).trans e2_12
        have e5_13 := (show F13.eval (.tmp 5) = F12.eval (.tmp 5) by rw [hF]; exact evO (by decide)).trans e5_12
        have e8_13 := (show F13.eval (.tmp 8) = F12.eval (.tmp 8) by rw [hF]; exact evO (by decide)).trans e8_12
        have e17_13 := (show F13.eval (.tmp 17) = F12.eval (.tmp 17) by rw [hF]; exact evO (by decide)).trans e17_12
        have e122_13 := (show F13.eval (.tmp 122) = F12.eval (.tmp 122) by rw [hF]; exact evO (by decide)).trans e122_12
        have e123_13 : F13.eval (.tmp 123) = .slice KA ks.length kc := by rw [hF]; exact evS (by rw [z12]; decide)
        have HF13 := Lib.hid hF
        clear hF e2_12 e5_12 e8_12 e17_12 e122_12
        refine tkT (i := 13) (oi := _) (v := .int .i64 (ks.length : Int)) rfl (by kernel_rfl) (by kernel_rfl) (by kernel_rfl) (fun _ _ _ h => h) HS.out (by rw [wantedG (d := 122) rfl rfl e122_13 (by rw [z13]; decide)]; rfl) (fun w _ => lnT (e := 24) rfl e123_13 (by kernel_rfl) w) ?_
        intro F14 hF
        replace hF : F14 = F13.put (some 124) (.int .i64 (ks.length : Int)) := hF
        have z14 : F14.tmps.size = 180 := by rw [hF]; simpa [Act.put] using z13
        have e2_14 := (show F14.eval (.tmp 2) = F13.eval (.tmp 2) by rw [hF]; exact evO (by decide)).trans e2_13
        have e5_14 := (show F14.eval (.tmp 5) = F13.eval (.tmp 5) by rw [hF]; exact evO (by decide)).trans e5_13
        have e8_14 := (show F14.eval (.tmp 8) = F13.eval (.tmp 8) by rw [hF]; exact evO (by decide)).trans e8_13
        have e17_14 := (show F14.eval (.tmp 17) = F13.eval (.tmp 17) by rw [hF]; exact evO (by decide)).trans e17_13
        have e122_14 := (show F14.eval (.tmp 122) = F13.eval (.tmp 122) by rw [hF]; exact evO (by decide)).trans e122_13
        have e124_14 : F14.eval (.tmp 124) = .int .i64 (ks.length : Int) := by rw [hF]; exact evS (by rw [z13]; decide)
        have HF14 := Lib.hid hF
        clear hF e2_13 e5_13 e8_13 e17_13 e122_13 e123_13
        refine tkT (i := 14) (oi := _) (v := .pointer (some ⟨w.heap.size, 0, none⟩)) rfl (by kernel_rfl) (by kernel_rfl) (by kernel_rfl) (fun _ _ _ h => h) HS.out (by rw [wantedG (d := 122) rfl rfl e122_14 (by rw [z14]; decide)]; rfl) (fun w _ => faT rfl e2_14 (by go_simp)) ?_
        intro F15 hF
        replace hF : F15 = F14.put (some 125) (.pointer (some ⟨w.heap.size, 0, none⟩)) := hF
        have z15 : F15.tmps.size = 180 := by rw [hF]; simpa [Act.put] using z14
        have e2_15 := (show F15.eval (.tmp 2) = F14.eval (.tmp 2) by rw [hF]; exact evO (by decide)).trans e2_14
        have e5_15 := (show F15.eval (.tmp 5) = F14.eval (.tmp 5) by rw [hF]; exact evO (by decide)).trans e5_14
        have e8_15 := (show F15.eval (.tmp 8) = F14.eval (.tmp 8) by rw [hF]; exact evO (by decide)).trans e8_14
        have e17_15 := (show F15.eval (.tmp 17) = F14.eval (.tmp 17) by rw [hF]; exact evO (by decide)).trans e17_14
        have e122_15 := (show F15.eval (.tmp 122) = F14.eval (.tmp 122) by rw [hF]; exact evO (by decide)).trans e122_14
        have e124_15 := (show F15.eval (.tmp 124) = F14.eval (.tmp 124) by rw [hF]; exact evO (by decide)).trans e124_14
        have e125_15 : F15.eval (.tmp 125) = .pointer (some ⟨w.heap.size, 0, none⟩) := by rw [hF]; exact evS (by rw [z14]; decide)
        have HF15 := Lib.hid hF
        clear hF e2_14 e5_14 e8_14 e17_14 e122_14 e124_14
        refine tkT (i := 15) (oi := _) (v := .slice P1 a.length c1) rfl (by kernel_rfl) (by kernel_rfl) (by kernel_rfl) (fun _ _ _ h => h) HS.out (by rw [wantedG (d := 122) rfl rfl e122_15 (by rw [z15]; decide)]; rfl) (fun w hs => by have c1 := hs.1 0 (.slice P1 a.length c1) rfl; simp only [Nat.zero_add] at c1; exact ldT rfl e125_15 (by go_simp)) ?_
        intro F16 hF
        replace hF : F16 = F15.put (some 126) (.slice P1 a.length c1) := hF
        have z16 : F16.tmps.size = 180 := by rw [hF]; simpa [Act.put] using z15
        have e2_16 := (show F16.eval (.tmp 2) = F15.eval (.tmp 2) by rw [hF]; exact evO (by decide)).trans e2_15
        have e5_16 := (show F16.eval (.tmp 5) = F15.eval (.tmp 5) by rw [hF]; exact evO (by decide)).trans e5_15
        have e8_16 := (show F16.eval (.tmp 8) = F15.eval (.tmp 8) by rw [hF]; exact evO (by decide)).trans e8_15
        have e17_16 := (show F16.eval (.tmp 17) = F15.eval (.tmp 17) by rw [hF]; exact evO (by decide)).trans e17_15
        have e122_16 := (show F16.eval (.tmp 122) = F15.eval (.tmp 122) by rw [hF]; exact evO (by decide)).trans e122_15
        have e124_16 := (show F16.eval (.tmp 124) = F15.eval (.tmp 124) by rw [hF]; exact evO (by decide)).trans e124_15
        have e126_16 : F16.eval (.tmp 126) = .slice P1 a.length c1 := by rw [hF]; exact evS (by rw [z15]; decide)
        have HF16 := Lib.hid hF
        clear hF e2_15 e5_15 e8_15 e17_15 e122_15 e124_15 e125_15
        refine tkT (i := 16) (oi := _) (v := .pointer (some ⟨b0, off0, none⟩)) rfl (by kernel_rfl) (by kernel_rfl) (by kernel_rfl) (fun _ _ _ h => h) HS.out (by rw [wantedG (d := 122) rfl rfl e122_16 (by rw [z16]; decide)]; rfl) (fun w _ => iaT rfl e126_16 rfl (by rw [HP1.out]; have hz := HAP.out; go_simp; intro e0; rw [e0] at hz; simp at hz)) ?_
        intro F17 hF
        replace hF : F17 = F16.put (some 127) (.pointer (some ⟨b0, off0, none⟩)) := hF
        have z17 : F17.tmps.size = 180 := by rw [hF]; simpa [Act.put] using z16
        have e2_17 := (show F17.eval (.tmp 2) = F16.eval (.tmp 2) by rw [hF]; exact evO (by decide)).trans e2_16
        have e5_17 := (show F17.eval (.tmp 5) = F16.eval (.tmp 5) by rw [hF]; exact evO (by decide)).trans e5_16
        have e8_17 := (show F17.eval (.tmp 8) = F16.eval (.tmp 8) by rw [hF]; exact evO (by decide)).trans e8_16
        have e17_17 := (show F17.eval (.tmp 17) = F16.eval (.tmp 17) by rw [hF]; exact evO (by decide)).trans e17_16
        have e122_17 := (show F17.eval (.tmp 122) = F16.eval (.tmp 122) by rw [hF]; exact evO (by decide)).trans e122_16
        have e124_17 := (show F17.eval (.tmp 124) = F16.eval (.tmp 124) by rw [hF]; exact evO (by decide)).trans e124_16
        have e127_17 : F17.eval (.tmp 127) = .pointer (some ⟨b0, off0, none⟩) := by rw [hF]; exact evS (by rw [z16]; decide)
        have HF17 := Lib.hid hF
        clear hF e2_16 e5_16 e8_16 e17_16 e122_16 e124_16 e126_16
        refine tkT (i := 17) (oi := _) (v := .pointer (some ⟨b0, off0 + 4, none⟩)) rfl (by kernel_rfl) (by kernel_rfl) (by kernel_rfl) (fun _ _ _ h => h) HS.out (by rw [wantedG (d := 122) rfl rfl e122_17 (by rw [z17]; decide)]; rfl) (fun w _ => faT rfl e127_17 (by go_simp)) ?_
        intro F18 hF
        replace hF : F18 = F17.put (some 128) (.pointer (some ⟨b0, off0 + 4, none⟩)) := hF
        have z18 : F18.tmps.size = 180 := by rw [hF]; simpa [Act.put] using z17
        have e2_18 := (show F18.eval (.tmp 2) = F17.eval (.tmp 2) by rw [hF]; exact evO (by decide)).trans e2_17
        have e5_18 := (show F18.eval (.tmp 5) = F17.eval (.tmp 5) by rw [hF]; exact evO (by decide)).trans e5_17
        have e8_18 := (show F18.eval (.tmp 8) = F17.eval (.tmp 8) by rw [hF]; exact evO (by decide)).trans e8_17
        have e17_18 := (show F18.eval (.tmp 17) = F17.eval (.tmp 17) by rw [hF]; exact evO (by decide)).trans e17_17
        have e122_18 := (show F18.eval (.tmp 122) = F17.eval (.tmp 122) by rw [hF]; exact evO (by decide)).trans e122_17
        have e124_18 := (show F18.eval (.tmp 124) = F17.eval (.tmp 124) by rw [hF]; exact evO (by decide)).trans e124_17
        have e128_18 : F18.eval (.tmp 128) = .pointer (some ⟨b0, off0 + 4, none⟩) := by rw [hF]; exact evS (by rw [z17]; decide)
        have HF18 := Lib.hid hF
        clear hF e2_17 e5_17 e8_17 e17_17 e122_17 e124_17 e127_17
        refine tkT (i := 18) (oi := _) (v := .int .i64 (ks.length : Int)) rfl (by kernel_rfl) (by kernel_rfl) (by kernel_rfl) (fun _ _ _ h => h) HS.out (by rw [wantedG (d := 122) rfl rfl e122_18 (by rw [z18]; decide)]; rfl) (fun w hs => by have c0 := hs.2.1 4 _ HC4.out; exact ldT rfl e128_18 (by go_simp)) ?_
        intro F19 hF
        replace hF : F19 = F18.put (some 129) (.int .i64 (ks.length : Int)) := hF
        have z19 : F19.tmps.size = 180 := by rw [hF]; simpa [Act.put] using z18
        have e2_19 := (show F19.eval (.tmp 2) = F18.eval (.tmp 2) by rw [hF]; exact evO (by decide)).trans e2_18
        have e5_19 := (show F19.eval (.tmp 5) = F18.eval (.tmp 5) by rw [hF]; exact evO (by decide)).trans e5_18
        have e8_19 := (show F19.eval (.tmp 8) = F18.eval (.tmp 8) by rw [hF]; exact evO (by decide)).trans e8_18
        have e17_19 := (show F19.eval (.tmp 17) = F18.eval (.tmp 17) by rw [hF]; exact evO (by decide)).trans e17_18
        have e122_19 := (show F19.eval (.tmp 122) = F18.eval (.tmp 122) by rw [hF]; exact evO (by decide)).trans e122_18
        have e124_19 := (show F19.eval (.tmp 124) = F18.eval (.tmp 124) by rw [hF]; exact evO (by decide)).trans e124_18
        have e129_19 : F19.eval (.tmp 129) = .int .i64 (ks.length : Int) := by rw [hF]; exact evS (by rw [z18]; decide)
        have HF19 := Lib.hid hF
        clear hF e2_18 e5_18 e8_18 e17_18 e122_18 e124_18 e128_18
        refine tkT (i := 19) (oi := _) (v := .bool false) rfl (by kernel_rfl) (by kernel_rfl) (by kernel_rfl) (fun _ _ _ h => h) HS.out (by rw [wantedG (d := 122) rfl rfl e122_19 (by rw [z19]; decide)]; rfl) (fun w hs => boT rfl e124_19 e129_19 (by go_simp) (by go_simp)) ?_
        intro F20 hF
        replace hF : F20 = F19.put (some 130) (.bool false) := hF
        have z20 : F20.tmps.size = 180 := by rw [hF]; simpa [Act.put] using z19
        have e2_20 := (show F20.eval (.tmp 2) = F19.eval (.tmp 2) by rw [hF]; exact evO (by decide)).trans e2_19
        have e5_20 := (show F20.eval (.tmp 5) = F19.eval (.tmp 5) by rw [hF]; exact evO (by decide)).trans e5_19
        have e8_20 := (show F20.eval (.tmp 8) = F19.eval (.tmp 8) by rw [hF]; exact evO (by decide)).trans e8_19
        have e17_20 := (show F20.eval (.tmp 17) = F19.eval (.tmp 17) by rw [hF]; exact evO (by decide)).trans e17_19
        have e122_20 := (show F20.eval (.tmp 122) = F19.eval (.tmp 122) by rw [hF]; exact evO (by decide)).trans e122_19
        have e130_20 : F20.eval (.tmp 130) = .bool false := by rw [hF]; exact evS (by rw [z19]; decide)
        have HF20 := Lib.hid hF
        clear hF e2_19 e5_19 e8_19 e17_19 e122_19 e124_19 e129_19
        refine tkT (i := 20) (oi := _) (v := .bool false) rfl (by kernel_rfl) (by kernel_rfl) (by kernel_rfl) (fun _ _ _ h => h) HS.out (wantedT rfl) (fun w hs => pkT (vx := .bool true) rfl e122_20 rfl e130_20 w) ?_
        intro F21 hF
        replace hF : F21 = F20.put (some 131) (.bool false) := hF
        have z21 : F21.tmps.size = 180 := by rw [hF]; simpa [Act.put] using z20
        have e2_21 := (show F21.eval (.tmp 2) = F20.eval (.tmp 2) by rw [hF]; exact evO (by decide)).trans e2_20
        have e5_21 := (show F21.eval (.tmp 5) = F20.eval (.tmp 5) by rw [hF]; exact evO (by decide)).trans e5_20
        have e8_21 := (show F21.eval (.tmp 8) = F20.eval (.tmp 8) by rw [hF]; exact evO (by decide)).trans e8_20
        have e17_21 := (show F21.eval (.tmp 17) = F20.eval (.tmp 17) by rw [hF]; exact evO (by decide)).trans e17_20
        have e131_21 : F21.eval (.tmp 131) = .bool false := by rw [hF]; exact evS (by rw [z20]; decide)
        have HF21 := Lib.hid hF
        clear hF e2_20 e5_20 e8_20 e17_20 e122_20 e130_20
        refine tkT (i := 21) (oi := _) (v := .bool false) rfl (by kernel_rfl) (by kernel_rfl) (by kernel_rfl) (fun _ _ _ h => h) HS.out (wantedT rfl) (fun w _ => mvT rfl e131_21 w) ?_
        intro F22 hF
        replace hF : F22 = F21.put (some 132) (.bool false) := hF
        have z22 : F22.tmps.size = 180 := by rw [hF]; simpa [Act.put] using z21
        have e2_22 := (show F22.eval (.tmp 2) = F21.eval (.tmp 2) by rw [hF]; exact evO (by decide)).trans e2_21
        have e5_22 := (show F22.eval (.tmp 5) = F21.eval (.tmp 5) by rw [hF]; exact evO (by decide)).trans e5_21
        have e8_22 := (show F22.eval (.tmp 8) = F21.eval (.tmp 8) by rw [hF]; exact evO (by decide)).trans e8_21
        have e17_22 := (show F22.eval (.tmp 17) = F21.eval (.tmp 17) by rw [hF]; exact evO (by decide)).trans e17_21
        have e132_22 : F22.eval (.tmp 132) = .bool false := by rw [hF]; exact evS (by rw [z21]; decide)
        have HF22 := Lib.hid hF
        clear hF e2_21 e5_21 e8_21 e17_21 e131_21
        refine tkT (i := 22) (oi := _) (v := .pointer (some ⟨w.heap.size, 0, none⟩)) rfl (by kernel_rfl) (by kernel_rfl) (by kernel_rfl) (fun _ _ _ h => h) HS.out (by rw [wantedG (d := 132) rfl rfl e132_22 (by rw [z22]; decide)]; rfl) (fun w _ => faT rfl e2_22 (by go_simp)) ?_
        intro F23 hF
        replace hF : F23 = F22.put (some 133) (.pointer (some ⟨w.heap.size, 0, none⟩)) := hF
        have z23 : F23.tmps.size = 180 := by rw [hF]; simpa [Act.put] using z22
        have e2_23 := (show F23.eval (.tmp 2) = F22.eval (.tmp 2) by rw [hF]; exact evO (by decide)).trans e2_22
        have e5_23 := (show F23.eval (.tmp 5) = F22.eval (.tmp 5) by rw [hF]; exact evO (by decide)).trans e5_22
        have e8_23 := (show F23.eval (.tmp 8) = F22.eval (.tmp 8) by rw [hF]; exact evO (by decide)).trans e8_22
        have e17_23 := (show F23.eval (.tmp 17) = F22.eval (.tmp 17) by rw [hF]; exact evO (by decide)).trans e17_22
        have e132_23 := (show F23.eval (.tmp 132) = F22.eval (.tmp 132) by rw [hF]; exact evO (by decide)).trans e132_22
        have e133_23 : F23.eval (.tmp 133) = .pointer (some ⟨w.heap.size, 0, none⟩) := by rw [hF]; exact evS (by rw [z22]; decide)
        have HF23 := Lib.hid hF
        clear hF e2_22 e5_22 e8_22 e17_22 e132_22
        refine tkT (i := 23) (oi := _) (v := .slice P1 a.length c1) rfl (by kernel_rfl) (by kernel_rfl) (by kernel_rfl) (fun _ _ _ h => h) HS.out (by rw [wantedG (d := 132) rfl rfl e132_23 (by rw [z23]; decide)]; rfl) (fun w hs => by have c1 := hs.1 0 (.slice P1 a.length c1) rfl; simp only [Nat.zero_add] at c1; exact ldT rfl e133_23 (by go_simp)) ?_
        intro F24 hF
        replace hF : F24 = F23.put (some 134) (.slice P1 a.length c1) := hF
        have z24 : F24.tmps.size = 180 := by rw [hF]; simpa [Act.put] using z23
        have e2_24 := (show F24.eval (.tmp 2) = F23.eval (.tmp 2) by rw [hF]; exact evO (by decide)).trans e2_23
        have e5_24 := (show F24.eval (.tmp 5) = F23.eval (.tmp 5) by rw [hF]; exact evO (by decide)).trans e5_23
        have e8_24 := (show F24.eval (.tmp 8) = F23.eval (.tmp 8) by rw [hF]; exact evO (by decide)).trans e8_23
        have e17_24 := (show F24.eval (.tmp 17) = F23.eval (.tmp 17) by rw [hF]; exact evO (by decide)).trans e17_23
        have e132_24 := (show F24.eval (.tmp 132) = F23.eval (.tmp 132) by rw [hF]; exact evO (by decide)).trans e132_23
        have e134_24 : F24.eval (.tmp 134) = .slice P1 a.length c1 := by rw [hF]; exact evS (by rw [z23]; decide)
        have HF24 := Lib.hid hF
        clear hF e2_23 e5_23 e8_23 e17_23 e132_23 e133_23
        refine tkT (i := 24) (oi := _) (v := .pointer (some ⟨b0, off0, none⟩)) rfl (by kernel_rfl) (by kernel_rfl) (by kernel_rfl) (fun _ _ _ h => h) HS.out (by rw [wantedG (d := 132) rfl rfl e132_24 (by rw [z24]; decide)]; rfl) (fun w _ => iaT rfl e134_24 rfl (by rw [HP1.out]; have hz := HAP.out; go_simp; intro e0; rw [e0] at hz; simp at hz)) ?_
        intro F25 hF
        replace hF : F25 = F24.put (some 135) (.pointer (some ⟨b0, off0, none⟩)) := hF
        have z25 : F25.tmps.size = 180 := by rw [hF]; simpa [Act.put] using z24
        have e2_25 := (show F25.eval (.tmp 2) = F24.eval (.tmp 2) by rw [hF]; exact evO (by decide)).trans e2_24
        have e5_25 := (show F25.eval (.tmp 5) = F24.eval (.tmp 5) by rw [hF]; exact evO (by decide)).trans e5_24
        have e8_25 := (show F25.eval (.tmp 8) = F24.eval (.tmp 8) by rw [hF]; exact evO (by decide)).trans e8_24
        have e17_25 := (show F25.eval (.tmp 17) = F24.eval (.tmp 17) by rw [hF]; exact evO (by decide)).trans e17_24
        have e132_25 := (show F25.eval (.tmp 132) = F24.eval (.tmp 132) by rw [hF]; exact evO (by decide)).trans e132_24
        have e135_25 : F25.eval (.tmp 135) = .pointer (some ⟨b0, off0, none⟩) := by rw [hF]; exact evS (by rw [z24]; decide)
        have HF25 := Lib.hid hF
        clear hF e2_24 e5_24 e8_24 e17_24 e132_24 e134_24
        refine tkT (i := 25) (oi := _) (v := .agg (ndc nd).toArray) rfl (by kernel_rfl) (by kernel_rfl) (by kernel_rfl) (fun _ _ _ h => h) HS.out (by rw [wantedG (d := 132) rfl rfl e132_25 (by rw [z25]; decide)]; rfl) (fun w hs => lrT rfl e135_25 hs.2.1 (d := .struct ns) HNS.out rfl (by kernel_rfl)) ?_
        intro F26 hF
        replace hF : F26 = F25.put (some 136) (.agg (ndc nd).toArray) := hF
        have z26 : F26.tmps.size = 180 := by rw [hF]; simpa [Act.put] using z25
        have e2_26 := (show F26.eval (.tmp 2) = F25.eval (.tmp 2) by rw [hF]; exact evO (by decide)).trans e2_25
        have e5_26 := (show F26.eval (.tmp 5) = F25.eval (.tmp 5) by rw [hF]; exact evO (by decide)).trans e5_25
        have e8_26 := (show F26.eval (.tmp 8) = F25.eval (.tmp 8) by rw [hF]; exact evO (by decide)).trans e8_25
        have e17_26 := (show F26.eval (.tmp 17) = F25.eval (.tmp 17) by rw [hF]; exact evO (by decide)).trans e17_25
        have e132_26 := (show F26.eval (.tmp 132) = F25.eval (.tmp 132) by rw [hF]; exact evO (by decide)).trans e132_25
        have e136_26 : F26.eval (.tmp 136) = .agg (ndc nd).toArray := by rw [hF]; exact evS (by rw [z25]; decide)
        have HF26 := Lib.hid hF
        clear hF e2_25 e5_25 e8_25 e17_25 e132_25 e135_25
        refine tkT (i := 26) (oi := _) (v := .slice KA ks.length kc) rfl (by kernel_rfl) (by kernel_rfl) (by kernel_rfl) (fun _ _ _ h => h) HS.out (by rw [wantedG (d := 132) rfl rfl e132_26 (by rw [z26]; decide)]; rfl) (fun w _ => mvT rfl e5_26 w) ?_
        intro F27 hF
        replace hF : F27 = F26.put (some 137) (.slice KA ks.length kc) := hF
        have z27 : F27.tmps.size = 180 := by rw [hF]; simpa [Act.put] using z26
        have e2_27 := (show F27.eval (.tmp 2) = F26.eval (.tmp 2) by rw [hF]; exact evO (by decide)).trans e2_26
        have e8_27 := (show F27.eval (.tmp 8) = F26.eval (.tmp 8) by rw [hF]; exact evO (by decide)).trans e8_26
        have e17_27 := (show F27.eval (.tmp 17) = F26.eval (.tmp 17) by rw [hF]; exact evO (by decide)).trans e17_26
        have e132_27 := (show F27.eval (.tmp 132) = F26.eval (.tmp 132) by rw [hF]; exact evO (by decide)).trans e132_26
        have e136_27 := (show F27.eval (.tmp 136) = F26.eval (.tmp 136) by rw [hF]; exact evO (by decide)).trans e136_26
        have e137_27 : F27.eval (.tmp 137) = .slice KA ks.length kc := by rw [hF]; exact evS (by rw [z26]; decide)
        have HF27 := Lib.hid hF
        clear hF e2_26 e5_26 e8_26 e17_26 e132_26 e136_26
        refine tkT (i := 28) (oi := _) (v := .agg #[.slice P1 a.length c1]) rfl (by kernel_rfl) (by kernel_rfl) (by kernel_rfl) (fun _ _ _ h => h) HS.out (by rw [wantedG (d := 132) rfl rfl e132_27 (by rw [z27]; decide)]; rfl) (fun w hs => lrT rfl e2_27 hs.1 (d := .struct ts) HTS.out rfl (by kernel_rfl)) ?_
        intro F28 hF
        replace hF : F28 = F27.put (some 139) (.agg #[.slice P1 a.length c1]) := hF
        have z28 : F28.tmps.size = 180 := by rw [hF]; simpa [Act.put] using z27
        have e2_28 := (show F28.eval (.tmp 2) = F27.eval (.tmp 2) by rw [hF]; exact evO (by decide)).trans e2_27
        have e8_28 := (show F28.eval (.tmp 8) = F27.eval (.tmp 8) by rw [hF]; exact evO (by decide)).trans e8_27
        have e17_28 := (show F28.eval (.tmp 17) = F27.eval (.tmp 17) by rw [hF]; exact evO (by decide)).trans e17_27
        have e132_28 := (show F28.eval (.tmp 132) = F27.eval (.tmp 132) by rw [hF]; exact evO (by decide)).trans e132_27
        have e136_28 := (show F28.eval (.tmp 136) = F27.eval (.tmp 136) by rw [hF]; exact evO (by decide)).trans e136_27
        have e137_28 := (show F28.eval (.tmp 137) = F27.eval (.tmp 137) by rw [hF]; exact evO (by decide)).trans e137_27
        have e139_28 : F28.eval (.tmp 139) = .agg #[.slice P1 a.length c1] := by rw [hF]; exact evS (by rw [z27]; decide)
        have HF28 := Lib.hid hF
        clear hF e2_27 e8_27 e17_27 e132_27 e136_27 e137_27
        refine aloneT (i := 27) (oi := _) rfl (by kernel_rfl) (by rw [wantedG (d := 132) rfl rfl e132_28 (by rw [z28]; decide)]; rfl) ?_
        have hj := join_any nd (ks.map Tr.flat) KA kc w10 (by rw [List.length_map]; omega) HFK.out (HTI.out.qt (HQR.out.trans (QR.out.trans ((Qt.refl w9).drew.trans qw10))))
        rw [List.length_map, tree_join HOP.out] at hj
        refine wpCall (clT (f := 19) (args := #[.agg (ndc nd).toArray, .slice KA ks.length kc]) rfl (by simp only [List.map_toArray, List.map_cons, List.map_nil, e136_28, e137_28] <;> rfl) (fun args w => by kernel_rfl)) (fun v w' => Qt w10 w' ∧ ∃ A6 c6, v = .agg #[.slice A6 a.length c6] ∧ Lies w' (fun k => k < w'.heap.size) (.slice A6 a.length c6) a) (hj.mono (by rintro e w' ⟨A6, c6, rfl, l, q⟩; exact ⟨_, rfl, q, A6, c6, rfl, l.lt⟩)) ?_
        rintro v w11 ⟨qw11, A6, c6, rfl, l6⟩
        refine ⟨And.intro (rangeQt HS.out.1 qw11) (And.intro (rangeQt HS.out.2.1 qw11) (rangeQt HS.out.2.2 qw11)), genT fun F29 hF => ?_⟩
        have HS := Lib.hid (And.intro (rangeQt HS.out.1 qw11) (And.intro (rangeQt HS.out.2.1 qw11) (rangeQt HS.out.2.2 qw11)))
        replace hF : F29 = F28.put (some 138) (.agg #[.slice A6 a.length c6]) := hF
        have z29 : F29.tmps.size = 180 := by rw [hF]; simpa [Act.put] using z28
        have e2_29 := (show F29.eval (.tmp 2) = F28.eval (.tmp 2) by rw [hF]; exact evO (by decide)).trans e2_28
        have e8_29 := (show F29.eval (.tmp 8) = F28.eval (.tmp 8) by rw [hF]; exact evO (by decide)).trans e8_28
        have e17_29 := (show F29.eval (.tmp 17) = F28.eval (.tmp 17) by rw [hF]; exact evO (by decide)).trans e17_28
        have e132_29 := (show F29.eval (.tmp 132) = F28.eval (.tmp 132) by rw [hF]; exact evO (by decide)).trans e132_28
        have e138_29 : F29.eval (.tmp 138) = .agg #[.slice A6 a.length c6] := by rw [hF]; exact evS (by rw [z28]; decide)
        have e139_29 := (show F29.eval (.tmp 139) = F28.eval (.tmp 139) by rw [hF]; exact evO (by decide)).trans e139_28
        have HF29 := Lib.hid hF
        clear hF e2_28 e8_28 e17_28 e132_28 e136_28 e137_28 e139_28
        refine aloneT (i := 29) (oi := _) rfl (by kernel_rfl) (by rw [wantedG (d := 132) rfl rfl e132_29 (by rw [z29]; decide)]; rfl) ?_
        refine wpCall (clT (f := 16) (args := #[.agg #[.slice A6 a.length c6], .agg #[.slice P1 a.length c1]]) rfl (by simp only [List.map_toArray, List.map_cons, List.map_nil, e138_29, e139_29] <;> rfl) (fun args w => by kernel_rfl)) (fun v w' => v = .bool true ∧ Qt w11 w') ((sameTerm_any a a _ _ _ _ w11 (by have := HLA.out; omega) (by have := HLA.out; omega) l6 (LA.out.up ((QX.out.drew.trans qw10).trans qw11))).mono (by rintro e w' ⟨r, rfl, hr, q⟩; exact ⟨_, rfl, by rw [hr.2 rfl], q⟩)) ?_
        rintro v w12 ⟨rfl, qw12⟩
        refine ⟨And.intro (rangeQt HS.out.1 qw12) (And.intro (rangeQt HS.out.2.1 qw12) (rangeQt HS.out.2.2 qw12)), genT fun F30 hF => ?_⟩
        have HS := Lib.hid (And.intro (rangeQt HS.out.1 qw12) (And.intro (rangeQt HS.out.2.1 qw12) (rangeQt HS.out.2.2 qw12)))
        replace hF : F30 = F29.put (some 140) (.bool true) := hF
        have z30 : F30.tmps.size = 180 := by rw [hF]; simpa [Act.put] using z29
        have e2_30 := (show F30.eval (.tmp 2) = F29.eval (.tmp 2) by rw [hF]; exact evO (by decide)).trans e2_29
        have e8_30 := (show F30.eval (.tmp 8) = F29.eval (.tmp 8) by rw [hF]; exact evO (by decide)).trans e8_29
        have e17_30 := (show F30.eval (.tmp 17) = F29.eval (.tmp 17) by rw [hF]; exact evO (by decide)).trans e17_29
        have e132_30 := (show F30.eval (.tmp 132) = F29.eval (.tmp 132) by rw [hF]; exact evO (by decide)).trans e132_29
        have e140_30 : F30.eval (.tmp 140) = .bool true := by rw [hF]; exact evS (by rw [z29]; decide)
        have HF30 := Lib.hid hF
        clear hF e2_29 e8_29 e17_29 e132_29 e138_29 e139_29
        refine tkT (i := 30) (oi := _) (v := .bool false) rfl (by kernel_rfl) (by kernel_rfl) (by kernel_rfl) (fun _ _ _ h => h) HS.out (by rw [wantedG (d := 132) rfl rfl e132_30 (by rw [z30]; decide)]; rfl) (fun w hs => noT rfl e140_30) ?_
        intro F31 hF
        replace hF : F31 = F30.put (some 141) (.bool false) := hF
        have z31 : F31.tmps.size = 180 := by rw [hF]; simpa [Act.put] using z30
        have e2_31 := (show F31.eval (.tmp 2) = F30.eval (.tmp 2) by rw [hF]; exact evO (by decide)).trans e2_30
        have e8_31 := (show F31.eval (.tmp 8) = F30.eval (.tmp 8) by rw [hF]; exact evO (by decide)).trans e8_30
        have e17_31 := (show F31.eval (.tmp 17) = F30.eval (.tmp 17) by rw [hF]; exact evO (by decide)).trans e17_30
        have e132_31 := (show F31.eval (.tmp 132) = F30.eval (.tmp 132) by rw [hF]; exact evO (by decide)).trans e132_30
        have e141_31 : F31.eval (.tmp 141) = .bool false := by rw [hF]; exact evS (by rw [z30]; decide)
        have HF31 := Lib.hid hF
        clear hF e2_30 e8_30 e17_30 e132_30 e140_30
        refine tkT (i := 31) (oi := _) (v := .bool false) rfl (by kernel_rfl) (by kernel_rfl) (by kernel_rfl) (fun _ _ _ h => h) HS.out (wantedT rfl) (fun w hs => pkT (vx := .bool true) rfl e132_31 rfl e141_31 w) ?_
        intro F32 hF
        replace hF : F32 = F31.put (some 142) (.bool false) := hF
        have z32 : F32.tmps.size = 180 := by rw [hF]; simpa [Act.put] using z31
        have e2_32 := (show F32.eval (.tmp 2) = F31.eval (.tmp 2) by rw [hF]; exact evO (by decide)).trans e2_31
        have e8_32 := (show F32.eval (.tmp 8) = F31.eval (.tmp 8) by rw [hF]; exact evO (by decide)).trans e8_31
        have e17_32 := (show F32.eval (.tmp 17) = F31.eval (.tmp 17) by rw [hF]; exact evO (by decide)).trans e17_31
        have e142_32 : F32.eval (.tmp 142) = .bool false := by rw [hF]; exact evS (by rw [z31]; decide)
        have HF32 := Lib.hid hF
        clear hF e2_31 e8_31 e17_31 e132_31 e141_31
        refine tkT (i := 32) (oi := _) (v := .bool false) rfl (by kernel_rfl) (by kernel_rfl) (by kernel_rfl) (fun _ _ _ h => h) HS.out (wantedT rfl) (fun w _ => mvT rfl e142_32 w) ?_
        intro F33 hF
        replace hF : F33 = F32.put (some 143) (.bool false) := hF
        have z33 : F33.tmps.size = 180 := by rw [hF]; simpa [Act.put] using z32
        have e2_33 := (show F33.eval (.tmp 2) = F32.eval (.tmp 2) by rw [hF]; exact evO (by decide)).trans e2_32
        have e8_33 := (show F33.eval (.tmp 8) = F32.eval (.tmp 8) by rw [hF]; exact evO (by decide)).trans e8_32
        have e17_33 := (show F33.eval (.tmp 17) = F32.eval (.tmp 17) by rw [hF]; exact evO (by decide)).trans e17_32
        have e143_33 : F33.eval (.tmp 143) = .bool false := by rw [hF]; exact evS (by rw [z32]; decide)
        have HF33 := Lib.hid hF
        clear hF e2_32 e8_32 e17_32 e142_32
        refine tkT (i := 33) (oi := _) (v := .agg #[.slice UA (joinL n [a, a]).length uc]) rfl (by kernel_rfl) (by kernel_rfl) (by kernel_rfl) (fun _ _ _ h => h) HS.out (by rw [wantedG (d := 143) rfl rfl e143_33 (by rw [z33]; decide)]; rfl) (fun w hs => lrT rfl e17_33 hs.2.2 (d := .struct ts) HTS.out rfl (by kernel_rfl)) ?_
        intro F34 hF
        replace hF : F34 = F33.put (some 144) (.agg #[.slice UA (joinL n [a, a]).length uc]) := hF
        have z34 : F34.tmps.size = 180 := by rw [hF]; simpa [Act.put] using z33
        have e2_34 := (show F34.eval (.tmp 2) = F33.eval (.tmp 2) by rw [hF]; exact evO (by decide)).trans e2_33
        have e8_34 := (show F34.eval (.tmp 8) = F33.eval (.tmp 8) by rw [hF]; exact evO (by decide)).trans e8_33
        have e143_34 := (show F34.eval (.tmp 143) = F33.eval (.tmp 143) by rw [hF]; exact evO (by decide)).trans e143_33
        have e144_34 : F34.eval (.tmp 144) = .agg #[.slice UA (joinL n [a, a]).length uc] := by rw [hF]; exact evS (by rw [z33]; decide)
        have HF34 := Lib.hid hF
        clear hF e2_33 e8_33 e17_33 e143_33
        refine tkT (i := 35) (oi := _) (v := .int .i64 (deps ks : Int)) rfl (by kernel_rfl) (by kernel_rfl) (by kernel_rfl) (fun _ _ _ h => h) HS.out (by rw [wantedG (d := 143) rfl rfl e143_34 (by rw [z34]; decide)]; rfl) (fun w _ => mvT rfl e8_34 w) ?_
        intro F35 hF
        replace hF : F35 = F34.put (some 146) (.int .i64 (deps ks : Int)) := hF
        have z35 : F35.tmps.size = 180 := by rw [hF]; simpa [Act.put] using z34
        have e2_35 := (show F35.eval (.tmp 2) = F34.eval (.tmp 2) by rw [hF]; exact evO (by decide)).trans e2_34
        have e143_35 := (show F35.eval (.tmp 143) = F34.eval (.tmp 143) by rw [hF]; exact evO (by decide)).trans e143_34
        have e144_35 := (show F35.eval (.tmp 144) = F34.eval (.tmp 144) by rw [hF]; exact evO (by decide)).trans e144_34
        have e146_35 : F35.eval (.tmp 146) = .int .i64 (deps ks : Int) := by rw [hF]; exact evS (by rw [z34]; decide)
        have HF35 := Lib.hid hF
        clear hF e2_34 e8_34 e143_34 e144_34
        refine tkT (i := 36) (oi := _) (v := .int .i64 ((deps ks : Int) + 2)) rfl (by kernel_rfl) (by kernel_rfl) (by kernel_rfl) (fun _ _ _ h => h) HS.out (by rw [wantedG (d := 143) rfl rfl e143_35 (by rw [z35]; decide)]; rfl) (fun w hs => boT rfl e146_35 rfl (by go_simp) (by go_simp; first | done | (rw [IntKind.wrap_i64]; omega) | go_num)) ?_
        intro F36 hF
        replace hF : F36 = F35.put (some 147) (.int .i64 ((deps ks : Int) + 2)) := hF
        have z36 : F36.tmps.size = 180 := by rw [hF]; simpa [Act.put] using z35
        have e2_36 := (show F36.eval (.tmp 2) = F35.eval (.tmp 2) by rw [hF]; exact evO (by decide)).trans e2_35
        have e143_36 := (show F36.eval (.tmp 143) = F35.eval (.tmp 143) by rw [hF]; exact evO (by decide)).trans e143_35
        have e144_36 := (show F36.eval (.tmp 144) = F35.eval (.tmp 144) by rw [hF]; exact evO (by decide)).trans e144_35
        have e147_36 : F36.eval (.tmp 147) = .int .i64 ((deps ks : Int) + 2) := by rw [hF]; exact evS (by rw [z35]; decide)
        have HF36 := Lib.hid hF
        clear hF e2_35 e143_35 e144_35 e146_35
        refine aloneT (i := 34) (oi := _) rfl (by kernel_rfl) (by rw [wantedG (d := 143) rfl rfl e143_36 (by rw [z36]; decide)]; rfl) ?_
        have hdu := Deep_any (joinL n [a, a]) _ _ w12 (by have := HLA.out; simp only [joinL, List.flatten_cons, List.flatten_nil, List.length_append, List.length_cons, List.length_nil]; omega) (HLU.out.up ((((Qt.refl w9).drew.trans qw10).trans qw11).trans qw12)) (fun _ h => h)
        rw [tree_up HOP.out n] at hdu
        refine wpCall (clT (f := 17) (args := #[.agg #[.slice UA (joinL n [a, a]).length uc]]) rfl (by simp only [List.map_toArray, List.map_cons, List.map_nil, e144_36] <;> rfl) (fun args w => by kernel_rfl)) (fun v w' => v = .int .i64 ((deps ks : Int) + 2) ∧ Qt w12 w') (hdu.mono (by rintro e w' ⟨rfl, q⟩; exact ⟨_, rfl, rfl, q⟩)) ?_
        rintro v w13 ⟨rfl, qw13⟩
        refine ⟨And.intro (rangeQt HS.out.1 qw13) (And.intro (rangeQt HS.out.2.1 qw13) (rangeQt HS.out.2.2 qw13)), genT fun F37 hF => ?_⟩
        have HS := Lib.hid (And.intro (rangeQt HS.out.1 qw13) (And.intro (rangeQt HS.out.2.1 qw13) (rangeQt HS.out.2.2 qw13)))
        replace hF : F37 = F36.put (some 145) (.int .i64 ((deps ks : Int) + 2)) := hF
        have z37 : F37.tmps.size = 180 := by rw [hF]; simpa [Act.put] using z36
        have e2_37 := (show F37.eval (.tmp 2) = F36.eval (.tmp 2) by rw [hF]; exact evO (by decide)).trans e2_36
        have e143_37 := (show F37.eval (.tmp 143) = F36.eval (.tmp 143) by rw [hF]; exact evO (by decide)).trans e143_36
        have e145_37 : F37.eval (.tmp 145) = .int .i64 ((deps ks : Int) + 2) := by rw [hF]; exact evS (by rw [z36]; decide)
        have e147_37 := (show F37.eval (.tmp 147) = F36.eval (.tmp 147) by rw [hF]; exact evO (by decide)).trans e147_36
        have HF37 := Lib.hid hF
        clear hF e2_36 e143_36 e144_36 e147_36
        refine tkT (i := 37) (oi := _) (v := .bool false) rfl (by kernel_rfl) (by kernel_rfl) (by kernel_rfl) (fun _ _ _ h => h) HS.out (by rw [wantedG (d := 143) rfl rfl e143_37 (by rw [z37]; decide)]; rfl) (fun w hs => boT rfl e145_37 e147_37 (by go_simp) (by go_simp)) ?_
        intro F38 hF
        replace hF : F38 = F37.put (some 148) (.bool false) := hF
        have z38 : F38.tmps.size = 180 := by rw [hF]; simpa [Act.put] using z37
        have e2_38 := (show F38.eval (.tmp 2) = F37.eval (.tmp 2) by rw [hF]; exact evO (by decide)).trans e2_37
        have e143_38 := (show F38.eval (.tmp 143) = F37.eval (.tmp 143) by rw [hF]; exact evO (by decide)).trans e143_37
        have e148_38 : F38.eval (.tmp 148) = .bool false := by rw [hF]; exact evS (by rw [z37]; decide)
        have HF38 := Lib.hid hF
        clear hF e2_37 e143_37 e145_37 e147_37
        refine tkT (i := 38) (oi := _) (v := .bool false) rfl (by kernel_rfl) (by kernel_rfl) (by kernel_rfl) (fun _ _ _ h => h) HS.out (wantedT rfl) (fun w hs => pkT (vx := .bool true) rfl e143_38 rfl e148_38 w) ?_
        intro F39 hF
        replace hF : F39 = F38.put (some 149) (.bool false) := hF
        have z39 : F39.tmps.size = 180 := by rw [hF]; simpa [Act.put] using z38
        have e2_39 := (show F39.eval (.tmp 2) = F38.eval (.tmp 2) by rw [hF]; exact evO (by decide)).trans e2_38
        have e149_39 : F39.eval (.tmp 149) = .bool false := by rw [hF]; exact evS (by rw [z38]; decide)
        have HF39 := Lib.hid hF
        clear hF e2_38 e143_38 e148_38
        refine tkT (i := 39) (oi := _) (v := .bool false) rfl (by kernel_rfl) (by kernel_rfl) (by kernel_rfl) (fun _ _ _ h => h) HS.out (wantedT rfl) (fun w _ => mvT rfl e149_39 w) ?_
        intro F40 hF
        replace hF : F40 = F39.put (some 150) (.bool false) := hF
        have z40 : F40.tmps.size = 180 := by rw [hF]; simpa [Act.put] using z39
        have e2_40 := (show F40.eval (.tmp 2) = F39.eval (.tmp 2) by rw [hF]; exact evO (by decide)).trans e2_39
        have e150_40 : F40.eval (.tmp 150) = .bool false := by rw [hF]; exact evS (by rw [z39]; decide)
        have HF40 := Lib.hid hF
        clear hF e2_39 e149_39
        refine tkT (i := 40) (oi := _) (v := .agg #[.slice P1 a.length c1]) rfl (by kernel_rfl) (by kernel_rfl) (by kernel_rfl) (fun _ _ _ h => h) HS.out (by rw [wantedG (d := 150) rfl rfl e150_40 (by rw [z40]; decide)]; rfl) (fun w hs => lrT rfl e2_40 hs.1 (d := .struct ts) HTS.out rfl (by kernel_rfl)) ?_
        intro F41 hF
        replace hF : F41 = F40.put (some 151) (.agg #[.slice P1 a.length c1]) := hF
        have z41 : F41.tmps.size = 180 := by rw [hF]; simpa [Act.put] using z40
        have e2_41 := (show F41.eval (.tmp 2) = F40.eval (.tmp 2) by rw [hF]; exact evO (by decide)).trans e2_40
        have e150_41 := (show F41.eval (.tmp 150) = F40.eval (.tmp 150) by rw [hF]; exact evO (by decide)).trans e150_40
        have e151_41 : F41.eval (.tmp 151) = .agg #[.slice P1 a.length c1] := by rw [hF]; exact evS (by rw [z40]; decide)
        have HF41 := Lib.hid hF
        clear hF e2_40 e150_40
        refine tkT (i := 41) (oi := _) (v := .agg #[.slice P1 a.length c1]) rfl (by kernel_rfl) (by kernel_rfl) (by kernel_rfl) (fun _ _ _ h => h) HS.out (by rw [wantedG (d := 150) rfl rfl e150_41 (by rw [z41]; decide)]; rfl) (fun w hs => lrT rfl e2_41 hs.1 (d := .struct ts) HTS.out rfl (by kernel_rfl)) ?_
        intro F42 hF
        replace hF : F42 = F41.put (some 152) (.agg #[.slice P1 a.length c1]) := hF
        have z42 : F42.tmps.size = 180 := by rw [hF]; simpa [Act.put] using z41
        have e150_42 := (show F42.eval (.tmp 150) = F41.eval (.tmp 150) by rw [hF]; exact evO (by decide)).trans e150_41
        have e151_42 := (show F42.eval (.tmp 151) = F41.eval (.tmp 151) by rw [hF]; exact evO (by decide)).trans e151_41
        have e152_42 : F42.eval (.tmp 152) = .agg #[.slice P1 a.length c1] := by rw [hF]; exact evS (by rw [z41]; decide)
        have HF42 := Lib.hid hF
        clear hF e2_41 e150_41 e151_41
        refine aloneT (i := 42) (oi := _) rfl (by kernel_rfl) (by rw [wantedG (d := 150) rfl rfl e150_42 (by rw [z42]; decide)]; rfl) ?_
        refine wpCall (clT (f := 18) (args := #[.agg #[.slice P1 a.length c1], .agg #[.slice P1 a.length c1]]) rfl (by simp only [List.map_toArray, List.map_cons, List.map_nil, e151_42, e152_42] <;> rfl) (fun args w => by kernel_rfl)) (fun v w' => v = .bool true ∧ Qt w13 w') ((HSM.out _ ((((QX.out.drew.trans qw10).trans qw11).trans qw12).trans qw13)).mono (by rintro e w' ⟨rfl, q⟩; exact ⟨_, rfl, rfl, q⟩)) ?_
        rintro v w14 ⟨rfl, qw14⟩
        refine ⟨And.intro (rangeQt HS.out.1 qw14) (And.intro (rangeQt HS.out.2.1 qw14) (rangeQt HS.out.2.2 qw14)), genT fun F43 hF => ?_⟩
        have HS := Lib.hid (And.intro (rangeQt HS.out.1 qw14) (And.intro (rangeQt HS.out.2.1 qw14) (rangeQt HS.out.2.2 qw14)))
        replace hF : F43 = F42.put (some 153) (.bool true) := hF
        have z43 : F43.tmps.size = 180 := by rw [hF]; simpa [Act.put] using z42
        have e150_43 := (show F43.eval (.tmp 150) = F42.eval (.tmp 150) by rw [hF]; exact evO (by decide)).trans e150_42
        have e153_43 : F43.eval (.tmp 153) = .bool true := by rw [hF]; exact evS (by rw [z42]; decide)
        have HF43 := Lib.hid hF
        clear hF e150_42 e151_42 e152_42
        refine tkT (i := 43) (oi := _) (v := .bool false) rfl (by kernel_rfl) (by kernel_rfl) (by kernel_rfl) (fun _ _ _ h => h) HS.out (by rw [wantedG (d := 150) rfl rfl e150_43 (by rw [z43]; decide)]; rfl) (fun w hs => noT rfl e153_43) ?_
        intro F44 hF
        replace hF : F44 = F43.put (some 154) (.bool false) := hF
        have z44 : F44.tmps.size = 180 := by rw [hF]; simpa [Act.put] using z43
        have e150_44 := (show F44.eval (.tmp 150) = F43.eval (.tmp 150) by rw [hF]; exact evO (by decide)).trans e150_43
        have e154_44 : F44.eval (.tmp 154) = .bool false := by rw [hF]; exact evS (by rw [z43]; decide)
        have HF44 := Lib.hid hF
        clear hF e150_43 e153_43
        refine tkT (i := 44) (oi := _) (v := .bool false) rfl (by kernel_rfl) (by kernel_rfl) (by kernel_rfl) (fun _ _ _ h => h) HS.out (wantedT rfl) (fun w hs => pkT (vx := .bool true) rfl e150_44 rfl e154_44 w) ?_
        intro F45 hF
        replace hF : F45 = F44.put (some 155) (.bool false) := hF
        have z45 : F45.tmps.size = 180 := by rw [hF]; simpa [Act.put] using z44
        have HF45 := Lib.hid hF
        clear hF e150_44 e154_44
        refine wpAnyH_done (by kernel_rfl) ?_ _
        rw [HF45.out, HF44.out, HF43.out, HF42.out, HF41.out, HF40.out, HF39.out, HF38.out, HF37.out, HF36.out, HF35.out, HF34.out, HF33.out, HF32.out, HF31.out, HF30.out, HF29.out, HF28.out, HF27.out, HF26.out, HF25.out, HF24.out, HF23.out, HF22.out, HF21.out, HF20.out, HF19.out, HF18.out, HF17.out, HF16.out, HF15.out, HF14.out, HF13.out, HF12.out, HF11.out, HF10.out, HF9.out, HF8.out, HF7.out, HF6.out, HF5.out, HF4.out, HF3.out, HF2.out, HF1.out, HA.out]
        simp only [Act.put, List.setIfInBounds_toArray, List.set_cons_succ, List.set_cons_zero]
        clear HF45 HF44 HF43 HF42 HF41 HF40 HF39 HF38 HF37 HF36 HF35 HF34 HF33 HF32 HF31 HF30 HF29 HF28 HF27 HF26 HF25 HF24 HF23 HF22 HF21 HF20 HF19 HF18 HF17 HF16 HF15 HF14 HF13 HF12 HF11 HF10 HF9 HF8 HF7 HF6 HF5 HF4 HF3 HF2 HF1 HA z45 z44 z43 z42 z41 z40 z39 z38 z37 z36 z35 z34 z33 z32 z31 z30 z29 z28 z27 z26 z25 z24 z23 z22 z21 z20 z19 z18 z17 z16 z15 z14 z13 z12 z11 z10 z9 z8 z7 z6 z5 z4 z3 z2 z1 z0 
        have QX := Lib.hid (((((QX.out.drew.trans qw10).trans qw11).trans qw12).trans qw13).trans qw14)
        clear HLU HBU HN0 l6 qw10 qw11 qw12 qw13 qw14 HS
        go_wp2_with fail
        refine wp_region_held (S := (fun u => u.rangeAt (w.heap.size) 0 [.slice P1 a.length c1] ∧ u.rangeAt (w.heap.size + 1) 0 (ndc n))) (by kernel_rfl) ?_
        change wpAnyH _ _ _ _ _ _ _ _ (World.drew _)
        refine genT fun F0 hA => ?_
        have z0 : F0.tmps.size = 180 := by rw [hA]; rfl
        have e2_0 : F0.eval (.tmp 2) = .pointer (some ⟨w.heap.size, 0, none⟩) := by rw [hA]; rfl
        have e3_0 : F0.eval (.tmp 3) = .pointer (some ⟨w.heap.size + 1, 0, none⟩) := by rw [hA]; rfl
        have HA := Lib.hid hA
        clear hA
        have HS := Lib.hid (show World.rangeAt (World.drew _) _ _ _ ∧ World.rangeAt (World.drew _) _ _ _ from ⟨(show Blk (World.drew _) _ _ _ from (HB2.out.qt QX.out.drew)).range 0 [.slice P1 a.length c1] rfl, (show Blk (World.drew _) _ _ _ from (HB3.out.qt QX.out.drew)).range 0 (ndc n) rfl⟩)
        refine tkT (i := 1) (oi := _) (v := .pointer (some ⟨w.heap.size, 0, none⟩)) rfl (by kernel_rfl) (by kernel_rfl) (by kernel_rfl) (fun _ _ _ h => h) HS.out (wantedT rfl) (fun w _ => faT rfl e2_0 (by go_simp)) ?_
        intro F1 hF
        replace hF : F1 = F0.put (some 157) (.pointer (some ⟨w.heap.size, 0, none⟩)) := hF
        have z1 : F1.tmps.size = 180 := by rw [hF]; simpa [Act.put] using z0
        have e3_1 := (show F1.eval (.tmp 3) = F0.eval (.tmp 3) by rw [hF]; exact evO (by decide)).trans e3_0
        have e157_1 : F1.eval (.tmp 157) = .pointer (some ⟨w.heap.size, 0, none⟩) := by rw [hF]; exact evS (by rw [z0]; decide)
        have HF1 := Lib.hid hF
        clear hF e2_0 e3_0
        refine tkT (i := 2) (oi := _) (v := .slice P1 a.length c1) rfl (by kernel_rfl) (by kernel_rfl) (by kernel_rfl) (fun _ _ _ h => h) HS.out (wantedT rfl) (fun w hs => by have c1 := hs.1 0 (.slice P1 a.length c1) rfl; simp only [Nat.zero_add] at c1; exact ldT rfl e157_1 (by go_simp)) ?_
        intro F2 hF
        replace hF : F2 = F1.put (some 158) (.slice P1 a.length c1) := hF
        have z2 : F2.tmps.size = 180 := by rw [hF]; simpa [Act.put] using z1
        have e3_2 := (show F2.eval (.tmp 3) = F1.eval (.tmp 3) by rw [hF]; exact evO (by decide)).trans e3_1
        have e158_2 : F2.eval (.tmp 158) = .slice P1 a.length c1 := by rw [hF]; exact evS (by rw [z1]; decide)
        have HF2 := Lib.hid hF
        clear hF e3_1 e157_1
        refine tkT (i := 4) (oi := _) (v := .agg (ndc n).toArray) rfl (by kernel_rfl) (by kernel_rfl) (by kernel_rfl) (fun _ _ _ h => h) HS.out (wantedT rfl) (fun w hs => lrT rfl e3_2 hs.2 (d := .struct ns) HNS.out rfl (by kernel_rfl)) ?_
        intro F3 hF
        replace hF : F3 = F2.put (some 160) (.agg (ndc n).toArray) := hF
        have z3 : F3.tmps.size = 180 := by rw [hF]; simpa [Act.put] using z2
        have e158_3 := (show F3.eval (.tmp 158) = F2.eval (.tmp 158) by rw [hF]; exact evO (by decide)).trans e158_2
        have e160_3 : F3.eval (.tmp 160) = .agg (ndc n).toArray := by rw [hF]; exact evS (by rw [z2]; decide)
        have HF3 := Lib.hid hF
        clear hF e3_2 e158_2
        refine longR F3 (World.drew w14) 1 a n P1 c1 [#[false, true, true, false, true, false, false, false, false, false], #[true, true, true, false, true, false, false, false, false, false], #[false, true, true, false, true, true, false, false, false, false], #[false, true, true, false, true, false, false, false, true, false], #[true, true, true, true, true, false, false, false, false, false], #[true, true, true, false, true, true, false, false, false, false], #[true, true, true, false, true, false, false, false, true, false], #[false, true, true, false, true, true, false, false, true, false], #[true, true, true, true, true, true, false, false, false, false], #[true, true, true, true, true, false, false, false, true, false], #[true, true, true, false, true, true, false, false, true, false], #[true, true, true, true, true, true, true, false, false, false], #[true, true, true, true, true, true, false, false, true, false], #[true, true, true, true, true, true, true, true, false, false], #[true, true, true, true, true, true, true, false, true, false], #[true, true, true, true, true, true, true, true, true, false]] #[false, true, true, false, true, false, false, false, false, false] #[true, true, true, true, true, true, true, true, true, false] _ _ _ _ _ _ ⟨rfl, rfl, rfl, rfl⟩ ⟨rfl, rfl, rfl, rfl⟩ ⟨rfl, rfl, rfl, rfl⟩ ⟨rfl, rfl, rfl, rfl⟩ ⟨rfl, rfl, rfl, rfl⟩ ⟨rfl, rfl, rfl, rfl⟩ e158_3 e160_3 z3 (LA.out.up QX.out.drew) HAP.out (by have := HLA.out; omega) (fun w q => And.intro (rangeQt HS.out.1 q) (rangeQt HS.out.2 q)) (by decide +kernel) (by decide +kernel) (by decide) (by decide) (by decide) (by decide) ?_
        intro f wq hlg
        obtain ⟨A7, c7, e163, ho7⟩ := hlg.f7 rfl
        obtain ⟨g18, e18, hg18, hb18⟩ := hlg.f8 rfl
        have hlen1 : (a ++ [n]).length = a.length + 1 := by simp
        have hl7 : Lies wq (fun k => k < wq.heap.size) (.slice A7 (a.length + 1) c7) (a ++ [n]) := by
          rw [← hlen1] at ho7 ⊢
          exact (OQ.lies ho7).lt
        refine aloneT (i := 9) (oi := _) rfl (by kernel_rfl) (wantedT rfl) ?_
        refine wpStM rfl e18 (cells := [.slice A7 (a.length + 1) c7]) e163 (t := 24) (c := [.slice none 0 0]) hb18 (by show 1 ≤ 1; decide) (by kernel_rfl) (by intro u hu; rw [List.mem_singleton.1 hu]; rfl) ?_
        intro w15 og7 hz7 hb7
        have q7 : Qt (World.drew w14) w15 := og7.qt hlg.q hg18
        have HL7 := Lib.hid (hl7.og hb18 og7 hz7)
        have HB18 := Lib.hid (show Blk w15 g18 24 [.slice A7 (a.length + 1) c7] from hb7)
        refine ⟨⟨rangeQt HS.out.1 q7, rangeQt HS.out.2 q7⟩, ?_⟩
        refine wpAnyH_done (by kernel_rfl) ?_ _
        obtain ⟨v156, h156⟩ : ∃ v, f.eval (.tmp 156) = v := ⟨_, rfl⟩
        obtain ⟨v159, h159⟩ : ∃ v, f.eval (.tmp 159) = v := ⟨_, rfl⟩
        obtain ⟨v161, h161⟩ : ∃ v, f.eval (.tmp 161) = v := ⟨_, rfl⟩
        obtain ⟨v162, h162⟩ : ∃ v, f.eval (.tmp 162) = v := ⟨_, rfl⟩
        have hE : f = (((((F3.put (some 156) v156).put (some 159) v159).put (some 161) v161).put (some 162) v162).put (some 163) (.agg #[.slice A7 (a.length + 1) c7])).put (some 18) (.pointer (some ⟨g18, 0, none⟩)) := by
          refine act_ext (by simpa [Act.put, z3] using hlg.sz) (by simpa [Act.put] using hlg.df) (fun s => ?_)
          by_cases s18 : s = 18
          · subst s18; rw [evS (by simp [Act.put, z3])]; exact e18
          rw [evO (fun e => s18 e.symm)]
          by_cases s163 : s = 163
          · subst s163; rw [evS (by simp [Act.put, z3])]; exact e163
          rw [evO (fun e => s163 e.symm)]
          by_cases s162 : s = 162
          · subst s162; rw [evS (by simp [Act.put, z3])]; exact h162
          rw [evO (fun e => s162 e.symm)]
          by_cases s161 : s = 161
          · subst s161; rw [evS (by simp [Act.put, z3])]; exact h161
          rw [evO (fun e => s161 e.symm)]
          by_cases s159 : s = 159
          · subst s159; rw [evS (by simp [Act.put, z3])]; exact h159
          rw [evO (fun e => s159 e.symm)]
          by_cases s156 : s = 156
          · subst s156; rw [evS (by simp [Act.put, z3])]; exact h156
          rw [evO (fun e => s156 e.symm)]
          exact hlg.oth s s156 s159 s161 s162 s163 s18
        clear h156 h159 h161 h162
        rw [hE, HF3.out, HF2.out, HF1.out, HA.out]
        simp only [Act.put, List.setIfInBounds_toArray, List.set_cons_succ, List.set_cons_zero]
        have QX := Lib.hid (QX.out.drew.trans q7)
        clear hE hlg e18 e163 hb18 hl7 ho7 og7 hz7 hb7 q7 hg18 hlen1 HF1 HF2 HF3 HA z0 z1 z2 z3 e158_3 e160_3 HS
        have hne : a ≠ [] := fun e => by have hz := HAP.out; rw [e] at hz; simp at hz
        have hdl : a = a.dropLast ++ [a.getLast hne] := (List.dropLast_concat_getLast hne).symm
        have htk := (LA.out.up QX.out).take hdl
        obtain ⟨A2, c2, e2⟩ := htk.form
        rw [e2] at htk
        rw [List.length_dropLast] at e2 htk
        have HTK := Lib.hid htk
        have HE2 := Lib.hid e2
        have hcap : a.length ≤ c1 := LA.out.cap.2
        have HCAP := Lib.hid hcap
        have cA : w15.cell? ⟨w.heap.size, 0, none⟩ = some (.slice P1 a.length c1) := (HB2.out.qt QX.out).cell 0
        have HNE := Lib.hid hne
        have hw1 : 1 ≤ a.length := HAP.out
        have hw2 : a.length ≤ 300 := HLA.out
        clear htk e2 hcap hdl hne
        go_wp2_with (first
          | (refine armSkip rfl rfl rfl rfl ?_)
          | (refine armSl rfl 22 (.tmp 165) (.tmp 169) rfl P1 a.length c1 5 rfl .i64 _ rfl (by kernel_rfl) szBr (by have := HAP.out; omega) (by have := HCAP.out; omega) (.slice A2 (a.length - 1) c2) (by rw [show ((a.length : Int) - 1).toNat = a.length - 1 from by omega]; exact HE2.out) ?_)
          | (refine armSt rfl 24 (.tmp 19) (.tmp 171) rfl w15.heap.size [.slice A2 (a.length - 1) c2] rfl rfl (t := 24) (old := [.slice none 0 0]) (heap_alloc_new w15 _) (by kernel_rfl) rfl (by intro u hu; rw [List.mem_singleton.1 hu]; rfl) ?_; intro w16 og5 hz5 hb5; (have q5 : Qt w15 w16 := og5.qt ((Qt.refl w15).alloc _) (Nat.le_refl _)); (have QX := Lib.hid (QX.out.trans q5)); (have HB18 := Lib.hid (HB18.out.qt q5)); (have HB19 := Lib.hid hb5); (have HTK := Lib.hid (HTK.out.up q5)); (have HL7 := Lib.hid (HL7.out.up q5)); (have Q16 := Lib.hid (Qt.refl w16)); clear og5 hz5 hb5 q5 cA)
          | (refine armLdG 24 (.tmp 18) rfl g18 rfl (HB18.out.qt Q16.out) (.struct ts) HTS.out rfl (by kernel_rfl) (by first | exact wantedT rfl | exact (wantedB rfl rfl rfl).trans rfl) ?_))
        refine (Deep_any (a ++ [n]) _ _ _ (by rw [List.length_append]; have := HLA.out; simp; omega) (HL7.out.up Q16.out) (fun _ h => h)).mono ?_
        rintro e w17 ⟨rfl, q2⟩
        rw [tree_long HOP.out n]
        have QX := Lib.hid (QX.out.trans q2)
        have Q16 := Lib.hid (Q16.out.trans q2)
        clear q2
        go_wp2_with (first
          | (refine armSkip rfl rfl rfl rfl ?_)
          | (refine armLdG 24 (.tmp 19) rfl (w15.heap.size) rfl (HB19.out.qt Q16.out) (.struct ts) HTS.out rfl (by kernel_rfl) (by first | exact wantedT rfl | exact (wantedB rfl rfl rfl).trans rfl) ?_))
        refine (Deep_any a.dropLast _ _ _ (by rw [List.length_dropLast]; have := HLA.out; omega) (HTK.out.up Q16.out) (fun _ h => h)).mono ?_
        rintro e w18 ⟨rfl, q2⟩
        rw [tree_short HOP.out]
        have QX := Lib.hid (QX.out.trans q2)
        clear q2
        go_wp2_with fail
        go_ret
        exact ⟨rfl, Q0.out.trans QX.out⟩
end Go.Proofs.Ytipgpnkdgofdeaa.Tm
