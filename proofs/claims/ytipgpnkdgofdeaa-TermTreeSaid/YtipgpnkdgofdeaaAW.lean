import Derived.Test.YtipgpnkdgofdeaaJC
/-! awake: the chapter's examples. -/
namespace Go.Proofs.Ytipgpnkdgofdeaa.Tm
open Go.RowKit
set_option linter.unusedVariables false
set_option linter.unusedSimpArgs false

def aw3 : List Nd := [⟨4, 0, 0, ⟨#[]⟩, 2⟩, ⟨1, 1, 0, ⟨#[]⟩, 0⟩, ⟨2, 0, 0, ⟨#[97, 98]⟩, 0⟩]
def list1 : List Nd := [⟨4, 0, 0, ⟨#[]⟩, 1⟩, ⟨1, 1, 0, ⟨#[]⟩, 0⟩]
def list2 : List Nd := [⟨4, 0, 0, ⟨#[]⟩, 2⟩, ⟨1, 1, 0, ⟨#[]⟩, 0⟩, ⟨1, 1, 0, ⟨#[]⟩, 0⟩]
theorem aw_right : fitsL aw3 100 16 = true := by decide +kernel
theorem aw_deep : deepL aw3 = 2 := by decide +kernel
theorem aw_o1 : ordL (real1 9223372036854775808) (real1 0) = -1 := by decide +kernel
theorem aw_o2 : ordL (num1 4611686018427387904) (blob1 ⟨#[]⟩) = -1 := by decide +kernel
theorem aw_o3 : ordL list1 list2 = -1 := by decide +kernel

section
variable {ops : Array Oper} {rest : List Oper} {o : Oper} {a : Act} {w : World} {Q : Exit → Act → World → Prop}
/-- A row of terms is made. -/
theorem armTs (len : Nat) (parts : Array (Nat × Operand)) (ho : o.op = .buildSlice 34 len parts) (vals : Array (Nat × Value)) (hv : (parts.map fun (i, x) => (i, a.eval x)) = vals) (cells : List Value)
    (hr : ∀ w, (Instr.buildSlice 34 len vals).run Try.prog w = .ok (.slice (some ⟨w.heap.size, 0, none⟩) len len) (w.alloc (.cells cells.toArray 24))) (hw : Region.wanted o (yielded ops a.tmps) = true)
    (h : ∀ w' g, Qt w w' → w.heap.size ≤ g → Blk w' g 24 cells → wpList Try.prog ops Q rest (a.put o.dst (.slice (some ⟨g, 0, none⟩) len len)) w') : wpList Try.prog ops Q (o :: rest) a w :=
  BigFrame.wpList_want hw fun _ hK => wpRun (bsT ho hv (hr w)) (hK _ _ (h _ _ ((Qt.refl w).alloc _) (Nat.le_refl _) (heap_alloc_new w _)))
end
theorem termsBlk {w : World} {g : Nat} {cells : List Value} {ls : List (List Nd)} (hb : Blk w g 24 cells) (h : ∀ (i : Nat) (l : List Nd), ls[i]? = some l → ∃ B d, cells[i]? = some (Value.slice B l.length d) ∧ Lies w (fun k => k < w.heap.size) (.slice B l.length d) l) : TermsIn w (some ⟨g, 0, none⟩) ls := fun i l hl => by
  obtain ⟨B, d, hc, hli⟩ := h i l hl
  exact ⟨g, 0, rfl, B, d, by rw [Nat.zero_add, hb.cell]; exact hc, hli⟩
theorem terms1 {w : World} {g : Nat} {A : Option Addr} {c : Nat} {l : List Nd} (hb : Blk w g 24 [.slice A l.length c]) (h : Lies w (fun k => k < w.heap.size) (.slice A l.length c) l) : TermsIn w (some ⟨g, 0, none⟩) [l] :=
  termsBlk hb fun i x hx => by
    match i, hx with
    | 0, hx => cases hx; exact ⟨A, c, rfl, h⟩
theorem terms2 {w : World} {g : Nat} {A B : Option Addr} {c d : Nat} {l m : List Nd} (hb : Blk w g 24 [.slice A l.length c, .slice B m.length d]) (h : Lies w (fun k => k < w.heap.size) (.slice A l.length c) l) (h' : Lies w (fun k => k < w.heap.size) (.slice B m.length d) m) : TermsIn w (some ⟨g, 0, none⟩) [l, m] :=
  termsBlk hb fun i x hx => by
    match i, hx with
    | 0, hx => cases hx; exact ⟨A, c, rfl, h⟩
    | 1, hx => cases hx; exact ⟨B, d, rfl, h'⟩
theorem terms3 {w : World} {g : Nat} {A B C : Option Addr} {c d e : Nat} {l m n : List Nd} (hb : Blk w g 24 [.slice A l.length c, .slice B m.length d, .slice C n.length e]) (h : Lies w (fun k => k < w.heap.size) (.slice A l.length c) l) (h' : Lies w (fun k => k < w.heap.size) (.slice B m.length d) m) (h'' : Lies w (fun k => k < w.heap.size) (.slice C n.length e) n) : TermsIn w (some ⟨g, 0, none⟩) [l, m, n] :=
  termsBlk hb fun i x hx => by
    match i, hx with
    | 0, hx => cases hx; exact ⟨A, c, rfl, h⟩
    | 1, hx => cases hx; exact ⟨B, d, rfl, h'⟩
    | 2, hx => cases hx; exact ⟨C, e, rfl, h''⟩

theorem Right_any' (l : List Nd) (v : Value) (lb : Nat → Prop) (w : World) (hm : l.length ≤ 1000000) (h : Lies w lb v l) (hlb : ∀ k, lb k → k < w.heap.size) :
    Calls Try.prog 15 #[.agg #[v]] w fun e w' => e = .returned (.bool (fitsL l 100 16)) ∧ Qt w w' := by
  obtain ⟨ts, hts⟩ : ∃ fs, Try.prog.underlying 24 = some (.struct fs) := ⟨_, Try.underlying24⟩
  obtain ⟨A, c, rfl⟩ := h.form
  have q1 : Qt w (w.alloc (.cells #[.slice A l.length c] 24)) := (Qt.refl w).alloc _
  have HO := Lib.hid (Fits_any l _ lb _ 100 16 hm (h.qt q1) (fun k hk => Nat.lt_of_lt_of_le (hlb k hk) q1.size))
  have HQ1 := Lib.hid q1
  have HTS := Lib.hid hts
  clear h hlb q1 hts
  go_enter Try.func15, Try.ntmps15
  go_wp2_with (first
    | (refine armLd rfl 24 (.tmp 1) rfl w.heap.size rfl (cs := [.slice A l.length c]) (heap_alloc_new w _) (.struct ts) HTS.out rfl (by kernel_rfl) ?_)
    | (go_at_call 36; refine HO.out.mono ?_; rintro e w2 ⟨rfl, q2⟩; (have HQ2 := Lib.hid q2); clear q2))
  go_ret
  exact ⟨rfl, HQ1.out.trans HQ2.out⟩

set_option maxRecDepth 100000 in
set_option maxHeartbeats 2000000 in
theorem awake_any (w : World) : Calls Try.prog 9 #[] w fun e w' => e = .returned (.bool true) ∧ Qt w w' := by
  obtain ⟨ts, hts⟩ : ∃ fs, Try.prog.underlying 24 = some (.struct fs) := ⟨_, Try.underlying24⟩
  have HTS := Lib.hid hts
  clear hts
  go_enter Try.func9, Try.ntmps9
  go_wp2_with fail
  refine (number_any 1 _).mono ?_
  rintro e w1 ⟨A1, c1, rfl, l1, q1⟩
  have L1 := Lib.hid l1; have Q1 := Lib.hid q1; clear l1 q1
  go_wp2_with fail
  refine (blob_any _ _).mono ?_
  rintro e w2 ⟨A2, c2, rfl, l2, q2⟩
  have L1 := Lib.hid (L1.out.up q2); have L2 := Lib.hid l2; have Q2 := Lib.hid (Q1.out.trans q2); clear l2 q2
  go_wp2_with (refine armTs 2 _ rfl _ rfl [.slice A1 1 c1, .slice A2 1 c2] (fun w => by go_simp) rfl ?_; intro w3 g3 q3 hg3 hb3; (have T3 := Lib.hid (terms2 (l := num1 1) (m := blob1 ⟨#[97, 98]⟩) hb3 (L1.out.up q3) (L2.out.up q3))); (have Q3 := Lib.hid (Q2.out.trans q3)); clear q3 hg3 hb3)
  refine (show Calls _ _ _ _ (fun e w' => ∃ A' c', e = .returned (.agg #[.slice A' 3 c']) ∧ Lies w' (fun k => w3.heap.size ≤ k ∧ k < w'.heap.size) (.slice A' 3 c') aw3 ∧ Qt w3 w') from join_any ⟨4, 0, 0, ⟨#[]⟩, 0⟩ [num1 1, blob1 ⟨#[97, 98]⟩] _ 2 w3 (by decide) (by decide) T3.out).mono ?_
  rintro e w4 ⟨A4, c4, rfl, l4, q4⟩
  obtain ⟨b, off, rfl, _, _, hr4⟩ := l4.first
  have cK : ∀ o, (w4.alloc o).cell? ⟨b, off + 4, none⟩ = some (.int .i64 2) := fun o => cell_al (hr4 4 _ rfl) (blk_of_cell (hr4 4 _ rfl)) o
  have hcK : w4.cell? ⟨b, off + 4, none⟩ = some (.int .i64 2) := hr4 4 _ rfl
  have L4 := Lib.hid l4.lt; have Q4 := Lib.hid (Q3.out.trans q4); clear l4 q4
  go_wp2_with (first
    | (refine armSt rfl 24 (.tmp 1) (.tmp 6) rfl w4.heap.size [.slice (some ⟨b, off, none⟩) 3 c4] rfl rfl (t := 24) (old := [.slice none 0 0]) (heap_alloc_new w4 _) (by kernel_rfl) rfl (by intro u hu; rw [List.mem_singleton.1 hu]; rfl) ?_; intro w5 og5 hz5 hb5; (have q5 : Qt w4 w5 := og5.qt ((Qt.refl w4).alloc _) (Nat.le_refl _)); (have c1' : w5.cell? ⟨w4.heap.size, 0, none⟩ = some (.slice (some ⟨b, off, none⟩) 3 c4) := hb5.cell 0); (have cK5 : w5.cell? ⟨b, off + 4, none⟩ = some (.int .i64 2) := (q5.cell (p := ⟨b, off + 4, none⟩) (blk_of_cell hcK)).trans hcK); (have H1 := Lib.hid hb5); (have L4 := Lib.hid (L4.out.up q5)); (have Q5 := Lib.hid (Q4.out.trans q5)); clear og5 hb5 q5)
    | (refine armLdG 24 (.tmp 1) rfl w4.heap.size rfl H1.out (.struct ts) HTS.out rfl (by kernel_rfl) rfl ?_))
  refine (Right_any' aw3 _ _ _ (by decide) L4.out (fun _ h => h)).mono ?_
  rintro e w6 ⟨rfl, q6⟩
  rw [aw_right]
  have H1 := Lib.hid (H1.out.qt q6); have L4 := Lib.hid (L4.out.up q6); have Q6 := Lib.hid (Q5.out.trans q6); clear q6 c1' cK5 cK hcK
  go_wp2_with (refine armLdG 24 (.tmp 1) rfl w4.heap.size rfl H1.out (.struct ts) HTS.out rfl (by kernel_rfl) rfl ?_)
  refine (Deep_any aw3 _ _ _ (by decide) L4.out (fun _ h => h)).mono ?_
  rintro e w7 ⟨rfl, q7⟩
  rw [aw_deep]
  have Q7 := Lib.hid (Q6.out.trans q7); clear q7
  go_wp2_with fail
  refine (real_any 9223372036854775808 _).mono ?_
  rintro e w8 ⟨A8, c8, rfl, l8, q8⟩
  have L8 := Lib.hid l8; have Q8 := Lib.hid (Q7.out.trans q8); clear l8 q8
  go_wp2_with fail
  refine (real_any 0 _).mono ?_
  rintro e w9 ⟨A9, c9, rfl, l9, q9⟩
  have L8 := Lib.hid (L8.out.up q9); have L9 := Lib.hid l9; have Q9 := Lib.hid (Q8.out.trans q9); clear l9 q9
  go_wp2_with fail
  refine (Order_any (real1 9223372036854775808) (real1 0) _ _ _ _ _ (by decide) (by decide) L8.out L9.out (fun _ h => h) (fun _ h => h)).mono ?_
  rintro e wa ⟨rfl, qa⟩
  rw [aw_o1]
  have QA := Lib.hid (Q9.out.trans qa); clear qa
  go_wp2_with fail
  refine (number_any 4611686018427387904 _).mono ?_
  rintro e wb ⟨Ab, cb, rfl, lb, qb⟩
  have LB := Lib.hid lb; have QB := Lib.hid (QA.out.trans qb); clear lb qb
  go_wp2_with fail
  refine (blob_any _ _).mono ?_
  rintro e wc ⟨Ac, cc, rfl, lc, qc⟩
  have LB := Lib.hid (LB.out.up qc); have LC := Lib.hid lc; have QC := Lib.hid (QB.out.trans qc); clear lc qc
  go_wp2_with fail
  refine (Order_any (num1 4611686018427387904) (blob1 ⟨#[]⟩) _ _ _ _ _ (by decide) (by decide) LB.out LC.out (fun _ h => h) (fun _ h => h)).mono ?_
  rintro e wd ⟨rfl, qd⟩
  rw [aw_o2]
  have QD := Lib.hid (QC.out.trans qd); clear qd
  go_wp2_with fail
  refine (number_any 1 _).mono ?_
  rintro e we ⟨Ae, ce, rfl, le, qe⟩
  have LE := Lib.hid le; have QE := Lib.hid (QD.out.trans qe); clear le qe
  go_wp2_with (refine armTs 1 _ rfl _ rfl [.slice Ae 1 ce] (fun w => by go_simp) rfl ?_; intro wf gf qf hgf hbf; (have TF := Lib.hid (terms1 (l := num1 1) hbf (LE.out.up qf))); (have QF := Lib.hid (QE.out.trans qf)); clear qf hgf hbf)
  refine (show Calls _ _ _ _ (fun e w' => ∃ A' c', e = .returned (.agg #[.slice A' 2 c']) ∧ Lies w' (fun k => wf.heap.size ≤ k ∧ k < w'.heap.size) (.slice A' 2 c') list1 ∧ Qt wf w') from ofT_any 4 [num1 1] _ 1 wf (by decide) (by decide) TF.out).mono ?_
  rintro e wg ⟨Ag, cg, rfl, lg, qg⟩
  have LG := Lib.hid lg.lt; have QG := Lib.hid (QF.out.trans qg); clear lg qg
  go_wp2_with fail
  refine (number_any 1 _).mono ?_
  rintro e wh ⟨Ah, ch, rfl, lh, qh⟩
  have LG := Lib.hid (LG.out.up qh); have LH := Lib.hid lh; have QH := Lib.hid (QG.out.trans qh); clear lh qh
  go_wp2_with fail
  refine (number_any 1 _).mono ?_
  rintro e wi ⟨Ai, ci, rfl, li, qi⟩
  have LG := Lib.hid (LG.out.up qi); have LH := Lib.hid (LH.out.up qi); have LI := Lib.hid li; have QI := Lib.hid (QH.out.trans qi); clear li qi
  go_wp2_with (refine armTs 2 _ rfl _ rfl [.slice Ah 1 ch, .slice Ai 1 ci] (fun w => by go_simp) rfl ?_; intro wj gj qj hgj hbj; (have TJ := Lib.hid (terms2 (l := num1 1) (m := num1 1) hbj (LH.out.up qj) (LI.out.up qj))); (have LG := Lib.hid (LG.out.up qj)); (have QJ := Lib.hid (QI.out.trans qj)); clear qj hgj hbj)
  refine (show Calls _ _ _ _ (fun e w' => ∃ A' c', e = .returned (.agg #[.slice A' 3 c']) ∧ Lies w' (fun k => wj.heap.size ≤ k ∧ k < w'.heap.size) (.slice A' 3 c') list2 ∧ Qt wj w') from ofT_any 4 [num1 1, num1 1] _ 2 wj (by decide) (by decide) TJ.out).mono ?_
  rintro e wk ⟨Ak, ck, rfl, lk, qk⟩
  have LG := Lib.hid (LG.out.up qk); have LK := Lib.hid lk.lt; have QK := Lib.hid (QJ.out.trans qk); clear lk qk
  go_wp2_with fail
  refine (Order_any list1 list2 _ _ _ _ _ (by decide) (by decide) LG.out LK.out (fun _ h => h) (fun _ h => h)).mono ?_
  rintro e wl ⟨rfl, ql⟩
  rw [aw_o3]
  go_wp2_with fail
  go_ret
  exact ⟨rfl, QK.out.trans ql⟩
end Go.Proofs.Ytipgpnkdgofdeaa.Tm
