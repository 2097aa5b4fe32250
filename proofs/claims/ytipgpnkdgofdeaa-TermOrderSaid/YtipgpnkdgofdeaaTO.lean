import Derived.Test.YtipgpnkdgofdeaaRJ
import Derived.Test.YtipgpnkdgofdeaaPQ
/-! TermOrder, printed by gento.py. -/
namespace Go.Proofs.Ytipgpnkdgofdeaa.Tm
open Go.RowKit Go.Proofs.Ytipgpnkdgofdeaa.Fl
set_option linter.unusedVariables false
set_option linter.unusedSimpArgs false

/-- A row of terms that was made. -/
def TmB (ls : List (List Nd)) (v : Value) (w : World) : Prop := ∃ g, v = .slice (some ⟨g, 0, none⟩) ls.length ls.length ∧ TermsIn w (some ⟨g, 0, none⟩) ls
/-- A term that was joined. -/
def TmC (l : List Nd) (v : Value) (w : World) : Prop := ∃ A d, v = .agg #[.slice A l.length d] ∧ Lies w (fun k => k < w.heap.size) (.slice A l.length d) l
/-- A block made for a term. -/
def TmA (base : Nat) (v : Value) (w : World) : Prop := ∃ g, base ≤ g ∧ v = .pointer (some ⟨g, 0, none⟩) ∧ Blk w g 24 [.slice none 0 0]
def RR (base : Nat) (n : Nd) (l1 l2 : List (List Nd)) (kd : Nat → Nat) (i : Nat) (v : Value) (w : World) : Prop :=
  match kd i with
  | 0 => TmB l1 v w
  | 1 => TmC (joinL n l1) v w
  | 2 => TmB l2 v w
  | 3 => TmC (joinL n l2) v w
  | _ => TmA base v w
theorem RR.qt {base : Nat} {n : Nd} {l1 l2 : List (List Nd)} {kd : Nat → Nat} (i : Nat) (v : Value) (w w' : World) (h : RR base n l1 l2 kd i v w) (q : Qt w w') : RR base n l1 l2 kd i v w' := by
  unfold RR at *
  split at h
  · obtain ⟨g, e, h⟩ := h; exact ⟨g, e, h.qt q⟩
  · obtain ⟨A, d, e, h⟩ := h; exact ⟨A, d, e, h.up q⟩
  · obtain ⟨g, e, h⟩ := h; exact ⟨g, e, h.qt q⟩
  · obtain ⟨A, d, e, h⟩ := h; exact ⟨A, d, e, h.up q⟩
  · obtain ⟨g, hb, e, h⟩ := h; exact ⟨g, hb, e, h.qt q⟩

theorem TmB.mk {ls : List (List Nd)} {g : Nat} {w : World} (h : TermsIn w (some ⟨g, 0, none⟩) ls) : TmB ls (.slice (some ⟨g, 0, none⟩) ls.length ls.length) w := ⟨g, rfl, h⟩
theorem TmC.mk {l : List Nd} {A : Option Addr} {d : Nat} {w : World} (h : Lies w (fun k => k < w.heap.size) (.slice A l.length d) l) : TmC l (.agg #[.slice A l.length d]) w := ⟨A, d, rfl, h⟩
theorem TmA.mk {base g : Nat} {w : World} (hb : base ≤ g) (h : Blk w g 24 [.slice none 0 0]) : TmA base (.pointer (some ⟨g, 0, none⟩)) w := ⟨g, hb, rfl, h⟩
theorem terms0 {w : World} : TermsIn w none [] := fun i l hl => by simp at hl
theorem TmA.ne {base g : Nat} {v : Value} {w : World} (h : TmA base v w) (hg : w.heap.size ≤ g) : (.pointer (some ⟨g, 0, none⟩) : Value) ≠ v := by
  obtain ⟨g', _, rfl, hb⟩ := h
  intro e
  cases e
  have := hb.lt
  omega
/-- A term's nodes do not lie in a block that holds no node. -/
theorem Lies.ne {w : World} {ok : Nat → Prop} {v : Value} {l : List Nd} {g : Nat} (h : Lies w ok v l) (hb : Blk w g 24 [.slice none 0 0]) : Lies w (fun k => ok k ∧ k ≠ g) v l := by
  obtain ⟨A, c, rfl, hc, h⟩ := h
  refine ⟨A, c, rfl, hc, fun h0 => ?_⟩
  obtain ⟨b, off, rfl, hok, hx⟩ := h h0
  refine ⟨b, off, rfl, ⟨hok, fun e => ?_⟩, hx⟩
  subst e
  cases l with
  | nil => exact h0 rfl
  | cons n l =>
    have h1 := hx 0 (.int .i64 n.f0) rfl
    rw [hb.cell] at h1
    rcases off with _ | off
    · simp at h1
    · simp at h1
theorem Lies.og {w w' : World} {v : Value} {l : List Nd} {g : Nat} (h : Lies w (fun k => k < w.heap.size) v l) (hb : Blk w g 24 [.slice none 0 0]) (og : Og g w w') (hz : w.heap.size = w'.heap.size) : Lies w' (fun k => k < w'.heap.size) v l :=
  ((h.ne hb).move fun k hk hk2 => og.block k hk (fun e => hk2.2 (by cases e; rfl))).mono fun k hk => hz ▸ hk.1
theorem wantedB {ops : Array Oper} {o : Oper} {a : Act} {j d : Nat} {want b : Bool} (hg : o.guard = some (j, want)) (hd : (ops[j]?).bind (·.dst) = some d) (hv : a.tmps[d]? = some (.bool b)) : Region.wanted o (yielded ops a.tmps) = (b == want) := by
  unfold Region.wanted yielded
  rw [hg]
  simp only [hd, Option.bind_some, hv]
  cases b <;> cases want <;> rfl
/-- An operation whose guard does not hold. -/
theorem armSkip {P : Program} {ops : Array Oper} {rest : List Oper} {o : Oper} {a : Act} {w : World} {Q : Exit → Act → World → Prop} {j d : Nat} {want b : Bool} (hg : o.guard = some (j, want)) (hd : (ops[j]?).bind (·.dst) = some d) (hv : a.tmps[d]? = some (.bool b))
    (hb : (b == want) = false) (h : wpList P ops Q rest (a.put o.dst undef) w) : wpList P ops Q (o :: rest) a w :=
  wpList_step fun K hK => by rw [if_neg (by rw [wantedB hg hd hv, hb]; decide)]; exact hK _ _ h
theorem cutK {P : Program} {x : Code} {Q : Exit → Act → World → Prop} {a : Act} {w : World} (Rel : Exit → Act → World → Prop) (hk : ∀ e a w, Rel e a w → Q e a w)
    (h : ∀ R : Exit → Act → World → Prop, (∀ e a w, Rel e a w → R e a w) → x.wp P R a w) : x.wp P Q a w := Code.wp_mono hk (h Rel (fun _ _ _ h => h))
set_option maxRecDepth 100000 in
set_option maxHeartbeats 20000000 in
theorem termOrder_any (a b c : List Nd) (n : Nd) (u1 u2 u3 : Value) (w : World) (ha : Lies w (fun k => k < w.heap.size) u1 a) (hb : Lies w (fun k => k < w.heap.size) u2 b) (hc : Lies w (fun k => k < w.heap.size) u3 c)
    (la : a.length ≤ 140737488351232) (lb : b.length ≤ 140737488351232) (lc : c.length ≤ 140737488351232) (sa : SzL a) (sb : SzL b) (sc : SzL c) (wa : WfL a) (wb' : WfL b) (wc : WfL c) (hn : Wd n.f2) (sn : n.f3.size ≤ 140737488351232) :
    Calls Try.prog 4 #[.agg #[u1], .agg #[u2], .agg #[u3], .agg (ndc n).toArray] w fun e w' => e = .returned (.bool true) ∧ Qt w w' := by
  obtain ⟨ts, hts⟩ : ∃ fs, Try.prog.underlying 24 = some (.struct fs) := ⟨_, Try.underlying24⟩
  obtain ⟨ns, hns⟩ : ∃ fs, Try.prog.underlying 32 = some (.struct fs) := ⟨_, Try.underlying32⟩
  obtain ⟨P1, c1, rfl⟩ := ha.form
  obtain ⟨P2, c2, rfl⟩ := hb.form
  obtain ⟨P3, c3, rfl⟩ := hc.form
  have HTS := Lib.hid hts
  have HNS := Lib.hid hns
  have LA := Lib.hid ha; have LB := Lib.hid hb; have LC := Lib.hid hc
  have HLA := Lib.hid la; have HLB := Lib.hid lb; have HLC := Lib.hid lc
  have HSA := Lib.hid sa; have HSB := Lib.hid sb; have HSC := Lib.hid sc
  have HWA := Lib.hid wa; have HWB := Lib.hid wb'; have HWC := Lib.hid wc
  have HN := Lib.hid hn
  have q0 : Qt w ((((w.alloc (.cells #[.slice P1 a.length c1] 24)).alloc (.cells #[.slice P2 b.length c2] 24)).alloc (.cells #[.slice P3 c.length c3] 24)).alloc (.cells (ndc n).toArray 32)) := ((((Qt.refl w).alloc _).alloc _).alloc _).alloc _
  have b4 : Blk ((((w.alloc (.cells #[.slice P1 a.length c1] 24)).alloc (.cells #[.slice P2 b.length c2] 24)).alloc (.cells #[.slice P3 c.length c3] 24)).alloc (.cells (ndc n).toArray 32)) (w.heap.size) 24 [.slice P1 a.length c1] := (((show Blk (w.alloc (.cells #[.slice P1 a.length c1] 24)) (w.heap.size) 24 [.slice P1 a.length c1] from heap_alloc_new w _).alloc _).alloc _).alloc _
  have b5 : Blk ((((w.alloc (.cells #[.slice P1 a.length c1] 24)).alloc (.cells #[.slice P2 b.length c2] 24)).alloc (.cells #[.slice P3 c.length c3] 24)).alloc (.cells (ndc n).toArray 32)) (w.heap.size + 1) 24 [.slice P2 b.length c2] := ((show Blk ((w.alloc (.cells #[.slice P1 a.length c1] 24)).alloc (.cells #[.slice P2 b.length c2] 24)) (w.heap.size + 1) 24 [.slice P2 b.length c2] by have h := heap_alloc_new (w.alloc (.cells #[.slice P1 a.length c1] 24)) (.cells #[.slice P2 b.length c2] 24); rw [show (w.alloc (.cells #[.slice P1 a.length c1] 24)).heap.size = w.heap.size + 1 from by simp] at h; exact h).alloc _).alloc _
  have b6 : Blk ((((w.alloc (.cells #[.slice P1 a.length c1] 24)).alloc (.cells #[.slice P2 b.length c2] 24)).alloc (.cells #[.slice P3 c.length c3] 24)).alloc (.cells (ndc n).toArray 32)) (w.heap.size + 2) 24 [.slice P3 c.length c3] := (show Blk (((w.alloc (.cells #[.slice P1 a.length c1] 24)).alloc (.cells #[.slice P2 b.length c2] 24)).alloc (.cells #[.slice P3 c.length c3] 24)) (w.heap.size + 2) 24 [.slice P3 c.length c3] by have h := heap_alloc_new ((w.alloc (.cells #[.slice P1 a.length c1] 24)).alloc (.cells #[.slice P2 b.length c2] 24)) (.cells #[.slice P3 c.length c3] 24); rw [show ((w.alloc (.cells #[.slice P1 a.length c1] 24)).alloc (.cells #[.slice P2 b.length c2] 24)).heap.size = w.heap.size + 2 from by simp] at h; exact h).alloc _
  have b7 : Blk ((((w.alloc (.cells #[.slice P1 a.length c1] 24)).alloc (.cells #[.slice P2 b.length c2] 24)).alloc (.cells #[.slice P3 c.length c3] 24)).alloc (.cells (ndc n).toArray 32)) (w.heap.size + 3) 32 (ndc n) := by have h := heap_alloc_new (((w.alloc (.cells #[.slice P1 a.length c1] 24)).alloc (.cells #[.slice P2 b.length c2] 24)).alloc (.cells #[.slice P3 c.length c3] 24)) (.cells (ndc n).toArray 32); rw [show (((w.alloc (.cells #[.slice P1 a.length c1] 24)).alloc (.cells #[.slice P2 b.length c2] 24)).alloc (.cells #[.slice P3 c.length c3] 24)).heap.size = w.heap.size + 3 from by simp] at h; exact h
  have HB4 := Lib.hid b4; have HB5 := Lib.hid b5; have HB6 := Lib.hid b6; have HB7 := Lib.hid b7
  have Q0 := Lib.hid q0
  clear hts hns ha hb hc la lb lc sa sb sc wa wb' wc hn b4 b5 b6 b7 q0
  go_enter Try.func4, Try.ntmps4
  go_wp2_with fail
  refine (awake_any _).mono ?_
  rintro e w1 ⟨rfl, q1⟩
  have HB4 := Lib.hid (HB4.out.qt q1); have HB5 := Lib.hid (HB5.out.qt q1); have HB6 := Lib.hid (HB6.out.qt q1); have HB7 := Lib.hid (HB7.out.qt q1)
  have Q0 := Lib.hid (Q0.out.trans q1)
  have LA := Lib.hid (LA.out.up Q0.out); have LB := Lib.hid (LB.out.up Q0.out); have LC := Lib.hid (LC.out.up Q0.out)
  have QX := Lib.hid (Qt.refl w1)
  clear q1
  go_wp2_with (first
    | (refine armLdG 24 (.tmp 4) rfl (w.heap.size) rfl (HB4.out.qt QX.out) (.struct ts) HTS.out rfl (by kernel_rfl) (by first | exact wantedT rfl | exact (wantedB rfl rfl rfl).trans rfl) ?_)
    | (refine armLdG 24 (.tmp 5) rfl (w.heap.size + 1) rfl (HB5.out.qt QX.out) (.struct ts) HTS.out rfl (by kernel_rfl) (by first | exact wantedT rfl | exact (wantedB rfl rfl rfl).trans rfl) ?_)
    | (refine armLdG 24 (.tmp 6) rfl (w.heap.size + 2) rfl (HB6.out.qt QX.out) (.struct ts) HTS.out rfl (by kernel_rfl) (by first | exact wantedT rfl | exact (wantedB rfl rfl rfl).trans rfl) ?_)
    | (refine armTs 3 _ rfl _ rfl [.slice P1 a.length c1, .slice P2 b.length c2, .slice P3 c.length c3] (fun w => by go_simp) rfl ?_; intro w3 g3 q3 hg3 hb3; (have TM := Lib.hid (terms3 hb3 (LA.out.up q3) (LB.out.up q3) (LC.out.up q3))); (have QX := Lib.hid q3); clear q3 hg3 hb3))
  refine (termsOf_any [a, b, c] _ 3 300 _ (by decide) (by decide) (by show 3 ≤ 1000; decide) ?_ ?_ TM.out).mono ?_
  · intro l hl
    simp only [List.mem_cons, List.not_mem_nil, or_false] at hl
    rcases hl with rfl | rfl | rfl
    · have := HLA.out; omega
    · have := HLB.out; omega
    · have := HLC.out; omega
  · intro l hl
    simp only [List.mem_cons, List.not_mem_nil, or_false] at hl
    rcases hl with rfl | rfl | rfl
    · exact HSA.out
    · exact HSB.out
    · exact HSC.out
  rintro e wb ⟨r, rfl, hr0, hall, q4⟩
  have QB := Lib.hid (QX.out.trans q4)
  have c7 : wb.cell? ⟨w.heap.size + 3, 3, none⟩ = some (.string n.f3) := (HB7.out.qt QB.out).cell 3
  have HALL := Lib.hid hall
  clear q4 hall
  by_cases hr : 300 < r
  · go_wp2
    go_ret
    exact ⟨rfl, Q0.out.trans QB.out⟩
  by_cases hn3 : (300 : Int) < (n.f3.size : Int)
  · go_wp2
    go_ret
    exact ⟨rfl, Q0.out.trans QB.out⟩
  go_wp2
  have hall := HALL.out (by omega)
  have la : a.length ≤ 300 := by have := hall a (by simp); omega
  have lb : b.length ≤ 300 := by have := hall b (by simp); omega
  have lc : c.length ≤ 300 := by have := hall c (by simp); omega
  have HLA := Lib.hid la; have HLB := Lib.hid lb; have HLC := Lib.hid lc
  have HB4 := Lib.hid (HB4.out.qt QB.out); have HB5 := Lib.hid (HB5.out.qt QB.out); have HB6 := Lib.hid (HB6.out.qt QB.out); have HB7 := Lib.hid (HB7.out.qt QB.out)
  have LA := Lib.hid (LA.out.up QB.out); have LB := Lib.hid (LB.out.up QB.out); have LC := Lib.hid (LC.out.up QB.out)
  have Q0 := Lib.hid (Q0.out.trans QB.out)
  have QX := Lib.hid (Qt.refl wb)
  clear la lb lc hall c7 HALL hn3 hr hr0 QB TM
  obtain ⟨X, hX⟩ : ∃ X, X = ordL a b := ⟨_, rfl⟩
  obtain ⟨Y, hY⟩ : ∃ X, X = ordL b c := ⟨_, rfl⟩
  obtain ⟨V, hV⟩ : ∃ X, X = ordL a c := ⟨_, rfl⟩
  obtain ⟨Z, hZ⟩ : ∃ X, X = ordL b a := ⟨_, rfl⟩
  obtain ⟨ra, hra⟩ : ∃ r, r = fitsL a 100 16 := ⟨_, rfl⟩
  obtain ⟨rb, hrb⟩ : ∃ r, r = fitsL b 100 16 := ⟨_, rfl⟩
  obtain ⟨DA, hDA⟩ : ∃ r : Int, r = (deepL a : Int) := ⟨_, rfl⟩
  obtain ⟨DB, hDB⟩ : ∃ r : Int, r = (deepL b : Int) := ⟨_, rfl⟩
  obtain ⟨DC, hDC⟩ : ∃ r : Int, r = (deepL c : Int) := ⟨_, rfl⟩
  obtain ⟨sm, hsm⟩ : ∃ r, r = sameL a b := ⟨_, rfl⟩
  have HOAB := Lib.hid (fun (w' : World) (q : Qt wb w') => show Calls Try.prog 14 #[.agg #[.slice P1 a.length c1], .agg #[.slice P2 b.length c2]] w' (fun e w'' => e = .returned (.int .i64 X) ∧ Qt w' w'') from by rw [hX]; exact Order_any a b _ _ _ _ _ (by have := HLA.out; omega) (by have := HLB.out; omega) (LA.out.up q) (LB.out.up q) (fun _ h => h) (fun _ h => h))
  have HOBC := Lib.hid (fun (w' : World) (q : Qt wb w') => show Calls Try.prog 14 #[.agg #[.slice P2 b.length c2], .agg #[.slice P3 c.length c3]] w' (fun e w'' => e = .returned (.int .i64 Y) ∧ Qt w' w'') from by rw [hY]; exact Order_any b c _ _ _ _ _ (by have := HLB.out; omega) (by have := HLC.out; omega) (LB.out.up q) (LC.out.up q) (fun _ h => h) (fun _ h => h))
  have HOAC := Lib.hid (fun (w' : World) (q : Qt wb w') => show Calls Try.prog 14 #[.agg #[.slice P1 a.length c1], .agg #[.slice P3 c.length c3]] w' (fun e w'' => e = .returned (.int .i64 V) ∧ Qt w' w'') from by rw [hV]; exact Order_any a c _ _ _ _ _ (by have := HLA.out; omega) (by have := HLC.out; omega) (LA.out.up q) (LC.out.up q) (fun _ h => h) (fun _ h => h))
  have HOBA := Lib.hid (fun (w' : World) (q : Qt wb w') => show Calls Try.prog 14 #[.agg #[.slice P2 b.length c2], .agg #[.slice P1 a.length c1]] w' (fun e w'' => e = .returned (.int .i64 Z) ∧ Qt w' w'') from by rw [hZ]; exact Order_any b a _ _ _ _ _ (by have := HLB.out; omega) (by have := HLA.out; omega) (LB.out.up q) (LA.out.up q) (fun _ h => h) (fun _ h => h))
  have HOAA := Lib.hid (fun (w' : World) (q : Qt wb w') => show Calls Try.prog 14 #[.agg #[.slice P1 a.length c1], .agg #[.slice P1 a.length c1]] w' (fun e w'' => e = .returned (.int .i64 0) ∧ Qt w' w'') from by rw [show (0 : Int) = ordL a a from (ordL_self HWA.out).symm]; exact Order_any a a _ _ _ _ _ (by have := HLA.out; omega) (by have := HLA.out; omega) (LA.out.up q) (LA.out.up q) (fun _ h => h) (fun _ h => h))
  have HRA := Lib.hid (fun (w' : World) (q : Qt wb w') => show Calls Try.prog 15 #[.agg #[.slice P1 a.length c1]] w' (fun e w'' => e = .returned (.bool ra) ∧ Qt w' w'') from by rw [hra]; exact Right_any' a _ _ _ (by have := HLA.out; omega) (LA.out.up q) (fun _ h => h))
  have HRB := Lib.hid (fun (w' : World) (q : Qt wb w') => show Calls Try.prog 15 #[.agg #[.slice P2 b.length c2]] w' (fun e w'' => e = .returned (.bool rb) ∧ Qt w' w'') from by rw [hrb]; exact Right_any' b _ _ _ (by have := HLB.out; omega) (LB.out.up q) (fun _ h => h))
  have HDA := Lib.hid (fun (w' : World) (q : Qt wb w') => show Calls Try.prog 17 #[.agg #[.slice P1 a.length c1]] w' (fun e w'' => e = .returned (.int .i64 DA) ∧ Qt w' w'') from by rw [hDA]; exact Deep_any a _ _ _ (by have := HLA.out; omega) (LA.out.up q) (fun _ h => h))
  have HDB := Lib.hid (fun (w' : World) (q : Qt wb w') => show Calls Try.prog 17 #[.agg #[.slice P2 b.length c2]] w' (fun e w'' => e = .returned (.int .i64 DB) ∧ Qt w' w'') from by rw [hDB]; exact Deep_any b _ _ _ (by have := HLB.out; omega) (LB.out.up q) (fun _ h => h))
  have HDC := Lib.hid (fun (w' : World) (q : Qt wb w') => show Calls Try.prog 17 #[.agg #[.slice P3 c.length c3]] w' (fun e w'' => e = .returned (.int .i64 DC) ∧ Qt w' w'') from by rw [hDC]; exact Deep_any c _ _ _ (by have := HLC.out; omega) (LC.out.up q) (fun _ h => h))
  have HSM := Lib.hid (fun (w' : World) (q : Qt wb w') => show Calls Try.prog 18 #[.agg #[.slice P1 a.length c1], .agg #[.slice P2 b.length c2]] w' (fun e w'' => e = .returned (.bool sm) ∧ Qt w' w'') from by rw [hsm]; exact Same_any a b _ _ _ _ _ (by have := HLA.out; omega) (by have := HLB.out; omega) (LA.out.up q) (LB.out.up q) (fun _ h => h) (fun _ h => h))
  have HST := Lib.hid (fun (w' : World) (q : Qt wb w') => show Calls Try.prog 16 #[.agg #[.slice P1 a.length c1], .agg #[.slice P2 b.length c2]] w' (fun e w'' => ∃ r : Bool, e = .returned (.bool r) ∧ (r = true ↔ a = b) ∧ Qt w' w'') from sameTerm_any a b _ _ _ _ _ (by have := HLA.out; omega) (by have := HLB.out; omega) (LA.out.up q) (LB.out.up q))
  have hXZ : Z = -X ∧ -1 ≤ X ∧ X ≤ 1 := by have h := ordL_a2 HWA.out HWB.out; unfold A2 at h; rw [← hX, ← hZ] at h; exact h
  have hYb : -1 ≤ Y ∧ Y ≤ 1 := by have h := ordL_a2 HWB.out HWC.out; unfold A2 at h; rw [← hY] at h; exact h.2
  have hVle : X ≤ 0 → Y ≤ 0 → V ≤ 0 := by rw [hX, hY, hV]; exact ordL_le HWA.out HWB.out HWC.out
  have HRS := Lib.hid (show ra = true → rb = true → (X = 0 ↔ a = b) by rw [hra, hrb, hX]; exact right_same HWA.out HWB.out)
  have HDS := Lib.hid (show sm = true → 0 < DA ∧ 0 < DB by rw [hsm, hDA, hDB]; intro h; have := sameL_deep h; omega)
  have HD0 := Lib.hid (show 0 ≤ DA ∧ 0 ≤ DB ∧ 0 ≤ DC by rw [hDA, hDB, hDC]; omega)
  have HPN := Lib.hid (show DA ≠ 0 → DB ≠ 0 → DC ≠ 0 → ∃ t u x, opn a = some t ∧ opn b = some u ∧ opn c = some x by
    rw [hDA, hDB, hDC]
    intro h1 h2 h3
    obtain ⟨t, e1⟩ := Option.ne_none_iff_exists'.1 (fun e => h1 (by rw [deepL_zero.2 e]; rfl))
    obtain ⟨u, e2⟩ := Option.ne_none_iff_exists'.1 (fun e => h2 (by rw [deepL_zero.2 e]; rfl))
    obtain ⟨x, e3⟩ := Option.ne_none_iff_exists'.1 (fun e => h3 (by rw [deepL_zero.2 e]; rfl))
    exact ⟨t, u, x, e1, e2, e3⟩)
  have HSMO := Lib.hid hsm
  clear hra hrb hDA hDB hDC hsm
  have HX := Lib.hid hX; have HXZ := Lib.hid hXZ; have HVL := Lib.hid hVle; have HYB := Lib.hid hYb
  clear hX hY hV hZ hXZ hVle hYb
  refine wp_region_held (S := (fun u => u.rangeAt (w.heap.size) 0 [.slice P1 a.length c1] ∧ u.rangeAt (w.heap.size + 1) 0 [.slice P2 b.length c2] ∧ u.rangeAt (w.heap.size + 2) 0 [.slice P3 c.length c3])) (by kernel_rfl) ?_
  change wpAnyH _ _ _ _ _ _ _ _ (World.drew _)
  refine genT fun F0 hA => ?_
  have z0 : F0.tmps.size = 167 := by rw [hA]; rfl
  have e4_0 : F0.eval (.tmp 4) = .pointer (some ⟨w.heap.size, 0, none⟩) := by rw [hA]; rfl
  have e5_0 : F0.eval (.tmp 5) = .pointer (some ⟨w.heap.size + 1, 0, none⟩) := by rw [hA]; rfl
  have e6_0 : F0.eval (.tmp 6) = .pointer (some ⟨w.heap.size + 2, 0, none⟩) := by rw [hA]; rfl
  have HA := Lib.hid hA
  clear hA
  have HS := Lib.hid (show World.rangeAt (World.drew _) _ _ _ ∧ World.rangeAt (World.drew _) _ _ _ ∧ World.rangeAt (World.drew _) _ _ _ from ⟨(show Blk (World.drew _) _ _ _ from (HB4.out.qt QX.out.drew)).range 0 [.slice P1 a.length c1] rfl, (show Blk (World.drew _) _ _ _ from (HB5.out.qt QX.out.drew)).range 0 [.slice P2 b.length c2] rfl, (show Blk (World.drew _) _ _ _ from (HB6.out.qt QX.out.drew)).range 0 [.slice P3 c.length c3] rfl⟩)
  refine tkT (i := 0) (oi := _) (v := .agg #[.slice P1 a.length c1]) rfl (by kernel_rfl) (by kernel_rfl) (by kernel_rfl) (fun _ _ _ h => h) HS.out (wantedT rfl) (fun w hs => lrT rfl e4_0 hs.1 (d := .struct ts) HTS.out rfl (by kernel_rfl)) ?_
  intro F1 hF
  replace hF : F1 = F0.put (some 29) (.agg #[.slice P1 a.length c1]) := hF
  have z1 : F1.tmps.size = 167 := by rw [hF]; simpa [Act.put] using z0
  have e5_1 := (show F1.eval (.tmp 5) = F0.eval (.tmp 5) by rw [hF]; exact evO (by decide)).trans e5_0
  have e6_1 := (show F1.eval (.tmp 6) = F0.eval (.tmp 6) by rw [hF]; exact evO (by decide)).trans e6_0
  have e29_1 : F1.eval (.tmp 29) = .agg #[.slice P1 a.length c1] := by rw [hF]; exact evS (by rw [z0]; decide)
  have HF1 := Lib.hid hF
  clear hF e4_0 e5_0 e6_0
  refine tkT (i := 1) (oi := _) (v := .agg #[.slice P2 b.length c2]) rfl (by kernel_rfl) (by kernel_rfl) (by kernel_rfl) (fun _ _ _ h => h) HS.out (wantedT rfl) (fun w hs => lrT rfl e5_1 hs.2.1 (d := .struct ts) HTS.out rfl (by kernel_rfl)) ?_
  intro F2 hF
  replace hF : F2 = F1.put (some 30) (.agg #[.slice P2 b.length c2]) := hF
  have z2 : F2.tmps.size = 167 := by rw [hF]; simpa [Act.put] using z1
  have e5_2 := (show F2.eval (.tmp 5) = F1.eval (.tmp 5) by rw [hF]; exact evO (by decide)).trans e5_1
  have e6_2 := (show F2.eval (.tmp 6) = F1.eval (.tmp 6) by rw [hF]; exact evO (by decide)).trans e6_1
  have e29_2 := (show F2.eval (.tmp 29) = F1.eval (.tmp 29) by rw [hF]; exact evO (by decide)).trans e29_1
  have e30_2 : F2.eval (.tmp 30) = .agg #[.slice P2 b.length c2] := by rw [hF]; exact evS (by rw [z1]; decide)
  have HF2 := Lib.hid hF
  clear hF e5_1 e6_1 e29_1
  refine tkT (i := 3) (oi := _) (v := .agg #[.slice P2 b.length c2]) rfl (by kernel_rfl) (by kernel_rfl) (by kernel_rfl) (fun _ _ _ h => h) HS.out (wantedT rfl) (fun w hs => lrT rfl e5_2 hs.2.1 (d := .struct ts) HTS.out rfl (by kernel_rfl)) ?_
  intro F3 hF
  replace hF : F3 = F2.put (some 32) (.agg #[.slice P2 b.length c2]) := hF
  have z3 : F3.tmps.size = 167 := by rw [hF]; simpa [Act.put] using z2
  have e6_3 := (show F3.eval (.tmp 6) = F2.eval (.tmp 6) by rw [hF]; exact evO (by decide)).trans e6_2
  have e29_3 := (show F3.eval (.tmp 29) = F2.eval (.tmp 29) by rw [hF]; exact evO (by decide)).trans e29_2
  have e30_3 := (show F3.eval (.tmp 30) = F2.eval (.tmp 30) by rw [hF]; exact evO (by decide)).trans e30_2
  have e32_3 : F3.eval (.tmp 32) = .agg #[.slice P2 b.length c2] := by rw [hF]; exact evS (by rw [z2]; decide)
  have HF3 := Lib.hid hF
  clear hF e5_2 e6_2 e29_2 e30_2
  refine tkT (i := 4) (oi := _) (v := .agg #[.slice P3 c.length c3]) rfl (by kernel_rfl) (by kernel_rfl) (by kernel_rfl) (fun _ _ _ h => h) HS.out (wantedT rfl) (fun w hs => lrT rfl e6_3 hs.2.2 (d := .struct ts) HTS.out rfl (by kernel_rfl)) ?_
  intro F4 hF
  replace hF : F4 = F3.put (some 33) (.agg #[.slice P3 c.length c3]) := hF
  have z4 : F4.tmps.size = 167 := by rw [hF]; simpa [Act.put] using z3
  have e29_4 := (show F4.eval (.tmp 29) = F3.eval (.tmp 29) by rw [hF]; exact evO (by decide)).trans e29_3
  have e30_4 := (show F4.eval (.tmp 30) = F3.eval (.tmp 30) by rw [hF]; exact evO (by decide)).trans e30_3
  have e32_4 := (show F4.eval (.tmp 32) = F3.eval (.tmp 32) by rw [hF]; exact evO (by decide)).trans e32_3
  have e33_4 : F4.eval (.tmp 33) = .agg #[.slice P3 c.length c3] := by rw [hF]; exact evS (by rw [z3]; decide)
  have HF4 := Lib.hid hF
  clear hF e6_3 e29_3 e30_3 e32_3
  refine aloneT (i := 2) (oi := _) rfl (by kernel_rfl) (wantedT rfl) ?_
  refine wpCall (clT (f := 14) (args := #[.agg #[.slice P1 a.length c1], .agg #[.slice P2 b.length c2]]) rfl (by simp only [List.map_toArray, List.map_cons, List.map_nil, e29_4, e30_4] <;> rfl) (fun args w => by kernel_rfl)) (fun v w' => v = .int .i64 X ∧ Qt wb.drew w') ((HOAB.out _ (Qt.refl wb).drew).mono (by rintro e w' ⟨rfl, q⟩; exact ⟨_, rfl, rfl, q⟩)) ?_
  rintro v w9 ⟨rfl, qw9⟩
  refine ⟨And.intro (rangeQt HS.out.1 qw9) (And.intro (rangeQt HS.out.2.1 qw9) (rangeQt HS.out.2.2 qw9)), genT fun F5 hF => ?_⟩
  have HS := Lib.hid (And.intro (rangeQt HS.out.1 qw9) (And.intro (rangeQt HS.out.2.1 qw9) (rangeQt HS.out.2.2 qw9)))
  replace hF : F5 = F4.put (some 31) (.int .i64 X) := hF
  have z5 : F5.tmps.size = 167 := by rw [hF]; simpa [Act.put] using z4
  have e31_5 : F5.eval (.tmp 31) = .int .i64 X := by rw [hF]; exact evS (by rw [z4]; decide)
  have e32_5 := (show F5.eval (.tmp 32) = F4.eval (.tmp 32) by rw [hF]; exact evO (by decide)).trans e32_4
  have e33_5 := (show F5.eval (.tmp 33) = F4.eval (.tmp 33) by rw [hF]; exact evO (by decide)).trans e33_4
  have HF5 := Lib.hid hF
  clear hF e29_4 e30_4 e32_4 e33_4
  refine aloneT (i := 5) (oi := _) rfl (by kernel_rfl) (wantedT rfl) ?_
  refine wpCall (clT (f := 14) (args := #[.agg #[.slice P2 b.length c2], .agg #[.slice P3 c.length c3]]) rfl (by simp only [List.map_toArray, List.map_cons, List.map_nil, e32_5, e33_5] <;> rfl) (fun args w => by kernel_rfl)) (fun v w' => v = .int .i64 Y ∧ Qt w9 w') ((HOBC.out _ ((Qt.refl wb).drew.trans qw9)).mono (by rintro e w' ⟨rfl, q⟩; exact ⟨_, rfl, rfl, q⟩)) ?_
  rintro v w10 ⟨rfl, qw10⟩
  refine ⟨And.intro (rangeQt HS.out.1 qw10) (And.intro (rangeQt HS.out.2.1 qw10) (rangeQt HS.out.2.2 qw10)), genT fun F6 hF => ?_⟩
  have HS := Lib.hid (And.intro (rangeQt HS.out.1 qw10) (And.intro (rangeQt HS.out.2.1 qw10) (rangeQt HS.out.2.2 qw10)))
  replace hF : F6 = F5.put (some 34) (.int .i64 Y) := hF
  have z6 : F6.tmps.size = 167 := by rw [hF]; simpa [Act.put] using z5
  have e31_6 := (show F6.eval (.tmp 31) = F5.eval (.tmp 31) by rw [hF]; exact evO (by decide)).trans e31_5
  have e34_6 : F6.eval (.tmp 34) = .int .i64 Y := by rw [hF]; exact evS (by rw [z5]; decide)
  have HF6 := Lib.hid hF
  clear hF e31_5 e32_5 e33_5
  refine tkT (i := 6) (oi := _) (v := .int .i64 X) rfl (by kernel_rfl) (by kernel_rfl) (by kernel_rfl) (fun _ _ _ h => h) HS.out (wantedT rfl) (fun w _ => asT rfl e31_6 w) ?_
  intro F7 hF
  replace hF : F7 = F6.put (some 9) (.int .i64 X) := hF
  have z7 : F7.tmps.size = 167 := by rw [hF]; simpa [Act.put] using z6
  have e34_7 := (show F7.eval (.tmp 34) = F6.eval (.tmp 34) by rw [hF]; exact evO (by decide)).trans e34_6
  have HF7 := Lib.hid hF
  clear hF e31_6 e34_6
  refine tkT (i := 7) (oi := _) (v := .int .i64 Y) rfl (by kernel_rfl) (by kernel_rfl) (by kernel_rfl) (fun _ _ _ h => h) HS.out (wantedT rfl) (fun w _ => asT rfl e34_7 w) ?_
  intro F8 hF
  replace hF : F8 = F7.put (some 10) (.int .i64 Y) := hF
  have z8 : F8.tmps.size = 167 := by rw [hF]; simpa [Act.put] using z7
  have HF8 := Lib.hid hF
  clear hF e34_7
  refine wpAnyH_done (by kernel_rfl) ?_ _
  rw [HF8.out, HF7.out, HF6.out, HF5.out, HF4.out, HF3.out, HF2.out, HF1.out, HA.out]
  simp only [Act.put, List.setIfInBounds_toArray, List.set_cons_succ, List.set_cons_zero]
  clear HF8 HF7 HF6 HF5 HF4 HF3 HF2 HF1 HA z8 z7 z6 z5 z4 z3 z2 z1 z0 
  have QX := Lib.hid (((Qt.refl wb).drew.trans qw9).trans qw10)
  clear qw9 qw10 HS
  go_step; go_step; go_step
  rename_i K6 hK6
  refine cutK (fun e a' w' => e = .normal ∧ ∃ v8 v15 v16 v17 v18 v19 v20 v21 v22 v23 v24 v25 v26 v27 v28 v29 v30 v31 v32 v33 v34 v35 v36 v37 v38 v39 v40 v41 v42 v43 v44 v45 v46 v47 v48 v49 v50 v51 v52 v53 v54 v55 v56 v57 v58 v59 v60 v61 v62 v63 v64 v65 v66 v67 v68, a' = (⟨#[.agg #[.slice P1 a.length c1], .agg #[.slice P2 b.length c2], .agg #[.slice P3 c.length c3], .agg (ndc n).toArray, .pointer (some ⟨w.heap.size, 0, none⟩), .pointer (some ⟨w.heap.size + 1, 0, none⟩), .pointer (some ⟨w.heap.size + 2, 0, none⟩), .pointer (some ⟨w.heap.size + 3, 0, none⟩), v8, .int .i64 X, .int .i64 Y, undef, undef, undef, undef, v15, v16, v17, v18, v19, v20, v21, v22, v23, v24, v25, v26, v27, v28, v29, v30, v31, v32, v33, v34, v35, v36, v37, v38, v39, v40, v41, v42, v43, v44, v45, v46, v47, v48, v49, v50, v51, v52, v53, v54, v55, v56, v57, v58, v59, v60, v61, v62, v63, v64, v65, v66, v67, v68, undef, undef, undef, undef, undef, undef, undef, undef, undef, undef, undef, undef, undef, undef, undef, undef, undef, undef, undef, undef, undef, undef, undef, undef, undef, undef, undef, undef, undef, undef, undef, undef, undef, undef, undef, undef, undef, undef, undef, undef, undef, undef, undef, undef, undef, undef, undef, undef, undef, undef, undef, undef, undef, undef, undef, undef, undef, undef, undef, undef, undef, undef, undef, undef, undef, undef, undef, undef, undef, undef, undef, undef, undef, undef, undef, undef, undef, undef, undef, undef, undef, undef, undef, undef, undef, undef, undef, undef, undef, undef, undef, undef, undef, undef, undef, undef, undef, undef], []⟩ : Act) ∧ Qt wb w') (fun e a' w11 hrel => ?_) (fun R hR => ?_)
  rotate_left
  · have HR := Lib.hid hR
    clear hR hK6 K6
    have hXZ := HXZ.out
    obtain ⟨hz, hx1, hx2⟩ := hXZ
    rcases (show X = -1 ∨ X = 0 ∨ X = 1 from by omega) with rfl | rfl | rfl
    · subst hz
      by_cases hy : Y ≤ 0
      · have hv := HVL.out (by omega) hy
        have gv : decide (0 < V) = false := by simp; omega
        have gv2 : ¬ 0 < V := by omega
        go_wp2_with (first
            | (refine armSkip rfl rfl rfl rfl ?_)
            | (refine armLdG 24 (.tmp 4) rfl (w.heap.size) rfl (HB4.out.qt QX.out) (.struct ts) HTS.out rfl (by kernel_rfl) (by first | exact wantedT rfl | exact (wantedB rfl rfl rfl).trans rfl) ?_)
            | (refine armLdG 24 (.tmp 5) rfl (w.heap.size + 1) rfl (HB5.out.qt QX.out) (.struct ts) HTS.out rfl (by kernel_rfl) (by first | exact wantedT rfl | exact (wantedB rfl rfl rfl).trans rfl) ?_)
            | (refine armLdG 24 (.tmp 6) rfl (w.heap.size + 2) rfl (HB6.out.qt QX.out) (.struct ts) HTS.out rfl (by kernel_rfl) (by first | exact wantedT rfl | exact (wantedB rfl rfl rfl).trans rfl) ?_))
        refine (HOBA.out _ QX.out).mono ?_
        rintro e w2 ⟨rfl, q2⟩
        have QX := Lib.hid (QX.out.trans q2)
        clear q2
        go_wp2_with (first
            | (refine armSkip rfl rfl rfl rfl ?_)
            | (refine armLdG 24 (.tmp 4) rfl (w.heap.size) rfl (HB4.out.qt QX.out) (.struct ts) HTS.out rfl (by kernel_rfl) (by first | exact wantedT rfl | exact (wantedB rfl rfl rfl).trans rfl) ?_)
            | (refine armLdG 24 (.tmp 5) rfl (w.heap.size + 1) rfl (HB5.out.qt QX.out) (.struct ts) HTS.out rfl (by kernel_rfl) (by first | exact wantedT rfl | exact (wantedB rfl rfl rfl).trans rfl) ?_)
            | (refine armLdG 24 (.tmp 6) rfl (w.heap.size + 2) rfl (HB6.out.qt QX.out) (.struct ts) HTS.out rfl (by kernel_rfl) (by first | exact wantedT rfl | exact (wantedB rfl rfl rfl).trans rfl) ?_))
        refine (HOAC.out _ QX.out).mono ?_
        rintro e w2 ⟨rfl, q2⟩
        have QX := Lib.hid (QX.out.trans q2)
        clear q2
        go_wp2_with (first
            | (refine armSkip rfl rfl rfl rfl ?_)
            | (refine armLdG 24 (.tmp 4) rfl (w.heap.size) rfl (HB4.out.qt QX.out) (.struct ts) HTS.out rfl (by kernel_rfl) (by first | exact wantedT rfl | exact (wantedB rfl rfl rfl).trans rfl) ?_)
            | (refine armLdG 24 (.tmp 5) rfl (w.heap.size + 1) rfl (HB5.out.qt QX.out) (.struct ts) HTS.out rfl (by kernel_rfl) (by first | exact wantedT rfl | exact (wantedB rfl rfl rfl).trans rfl) ?_)
            | (refine armLdG 24 (.tmp 6) rfl (w.heap.size + 2) rfl (HB6.out.qt QX.out) (.struct ts) HTS.out rfl (by kernel_rfl) (by first | exact wantedT rfl | exact (wantedB rfl rfl rfl).trans rfl) ?_))
        refine (HOAA.out _ QX.out).mono ?_
        rintro e w2 ⟨rfl, q2⟩
        have QX := Lib.hid (QX.out.trans q2)
        clear q2
        go_wp2_with fail
        exact HR.out _ _ _ ⟨rfl, _, _, _, _, _, _, _, _, _, _, _, _, _, _, _, _, _, _, _, _, _, _, _, _, _, _, _, _, _, _, _, _, _, _, _, _, _, _, _, _, _, _, _, _, _, _, _, _, _, _, _, _, _, _, _, rfl, QX.out⟩
      · have hy' : 0 < Y := by omega
        go_wp2_with (first
            | (refine armSkip rfl rfl rfl rfl ?_)
            | (refine armLdG 24 (.tmp 4) rfl (w.heap.size) rfl (HB4.out.qt QX.out) (.struct ts) HTS.out rfl (by kernel_rfl) (by first | exact wantedT rfl | exact (wantedB rfl rfl rfl).trans rfl) ?_)
            | (refine armLdG 24 (.tmp 5) rfl (w.heap.size + 1) rfl (HB5.out.qt QX.out) (.struct ts) HTS.out rfl (by kernel_rfl) (by first | exact wantedT rfl | exact (wantedB rfl rfl rfl).trans rfl) ?_)
            | (refine armLdG 24 (.tmp 6) rfl (w.heap.size + 2) rfl (HB6.out.qt QX.out) (.struct ts) HTS.out rfl (by kernel_rfl) (by first | exact wantedT rfl | exact (wantedB rfl rfl rfl).trans rfl) ?_))
        refine (HOBA.out _ QX.out).mono ?_
        rintro e w2 ⟨rfl, q2⟩
        have QX := Lib.hid (QX.out.trans q2)
        clear q2
        go_wp2_with (first
            | (refine armSkip rfl rfl rfl rfl ?_)
            | (refine armLdG 24 (.tmp 4) rfl (w.heap.size) rfl (HB4.out.qt QX.out) (.struct ts) HTS.out rfl (by kernel_rfl) (by first | exact wantedT rfl | exact (wantedB rfl rfl rfl).trans rfl) ?_)
            | (refine armLdG 24 (.tmp 5) rfl (w.heap.size + 1) rfl (HB5.out.qt QX.out) (.struct ts) HTS.out rfl (by kernel_rfl) (by first | exact wantedT rfl | exact (wantedB rfl rfl rfl).trans rfl) ?_)
            | (refine armLdG 24 (.tmp 6) rfl (w.heap.size + 2) rfl (HB6.out.qt QX.out) (.struct ts) HTS.out rfl (by kernel_rfl) (by first | exact wantedT rfl | exact (wantedB rfl rfl rfl).trans rfl) ?_))
        refine (HOAA.out _ QX.out).mono ?_
        rintro e w2 ⟨rfl, q2⟩
        have QX := Lib.hid (QX.out.trans q2)
        clear q2
        go_wp2_with fail
        exact HR.out _ _ _ ⟨rfl, _, _, _, _, _, _, _, _, _, _, _, _, _, _, _, _, _, _, _, _, _, _, _, _, _, _, _, _, _, _, _, _, _, _, _, _, _, _, _, _, _, _, _, _, _, _, _, _, _, _, _, _, _, _, _, rfl, QX.out⟩
    · subst hz
      by_cases hy : Y ≤ 0
      · have hv := HVL.out (by omega) hy
        have gv : decide (0 < V) = false := by simp; omega
        have gv2 : ¬ 0 < V := by omega
        go_wp2_with (first
            | (refine armSkip rfl rfl rfl rfl ?_)
            | (refine armLdG 24 (.tmp 4) rfl (w.heap.size) rfl (HB4.out.qt QX.out) (.struct ts) HTS.out rfl (by kernel_rfl) (by first | exact wantedT rfl | exact (wantedB rfl rfl rfl).trans rfl) ?_)
            | (refine armLdG 24 (.tmp 5) rfl (w.heap.size + 1) rfl (HB5.out.qt QX.out) (.struct ts) HTS.out rfl (by kernel_rfl) (by first | exact wantedT rfl | exact (wantedB rfl rfl rfl).trans rfl) ?_)
            | (refine armLdG 24 (.tmp 6) rfl (w.heap.size + 2) rfl (HB6.out.qt QX.out) (.struct ts) HTS.out rfl (by kernel_rfl) (by first | exact wantedT rfl | exact (wantedB rfl rfl rfl).trans rfl) ?_))
        refine (HOBA.out _ QX.out).mono ?_
        rintro e w2 ⟨rfl, q2⟩
        have QX := Lib.hid (QX.out.trans q2)
        clear q2
        go_wp2_with (first
            | (refine armSkip rfl rfl rfl rfl ?_)
            | (refine armLdG 24 (.tmp 4) rfl (w.heap.size) rfl (HB4.out.qt QX.out) (.struct ts) HTS.out rfl (by kernel_rfl) (by first | exact wantedT rfl | exact (wantedB rfl rfl rfl).trans rfl) ?_)
            | (refine armLdG 24 (.tmp 5) rfl (w.heap.size + 1) rfl (HB5.out.qt QX.out) (.struct ts) HTS.out rfl (by kernel_rfl) (by first | exact wantedT rfl | exact (wantedB rfl rfl rfl).trans rfl) ?_)
            | (refine armLdG 24 (.tmp 6) rfl (w.heap.size + 2) rfl (HB6.out.qt QX.out) (.struct ts) HTS.out rfl (by kernel_rfl) (by first | exact wantedT rfl | exact (wantedB rfl rfl rfl).trans rfl) ?_))
        refine (HOAC.out _ QX.out).mono ?_
        rintro e w2 ⟨rfl, q2⟩
        have QX := Lib.hid (QX.out.trans q2)
        clear q2
        go_wp2_with (first
            | (refine armSkip rfl rfl rfl rfl ?_)
            | (refine armLdG 24 (.tmp 4) rfl (w.heap.size) rfl (HB4.out.qt QX.out) (.struct ts) HTS.out rfl (by kernel_rfl) (by first | exact wantedT rfl | exact (wantedB rfl rfl rfl).trans rfl) ?_)
            | (refine armLdG 24 (.tmp 5) rfl (w.heap.size + 1) rfl (HB5.out.qt QX.out) (.struct ts) HTS.out rfl (by kernel_rfl) (by first | exact wantedT rfl | exact (wantedB rfl rfl rfl).trans rfl) ?_)
            | (refine armLdG 24 (.tmp 6) rfl (w.heap.size + 2) rfl (HB6.out.qt QX.out) (.struct ts) HTS.out rfl (by kernel_rfl) (by first | exact wantedT rfl | exact (wantedB rfl rfl rfl).trans rfl) ?_))
        refine (HOAA.out _ QX.out).mono ?_
        rintro e w2 ⟨rfl, q2⟩
        have QX := Lib.hid (QX.out.trans q2)
        clear q2
        go_wp2_with fail
        exact HR.out _ _ _ ⟨rfl, _, _, _, _, _, _, _, _, _, _, _, _, _, _, _, _, _, _, _, _, _, _, _, _, _, _, _, _, _, _, _, _, _, _, _, _, _, _, _, _, _, _, _, _, _, _, _, _, _, _, _, _, _, _, _, rfl, QX.out⟩
      · have hy' : 0 < Y := by omega
        go_wp2_with (first
            | (refine armSkip rfl rfl rfl rfl ?_)
            | (refine armLdG 24 (.tmp 4) rfl (w.heap.size) rfl (HB4.out.qt QX.out) (.struct ts) HTS.out rfl (by kernel_rfl) (by first | exact wantedT rfl | exact (wantedB rfl rfl rfl).trans rfl) ?_)
            | (refine armLdG 24 (.tmp 5) rfl (w.heap.size + 1) rfl (HB5.out.qt QX.out) (.struct ts) HTS.out rfl (by kernel_rfl) (by first | exact wantedT rfl | exact (wantedB rfl rfl rfl).trans rfl) ?_)
            | (refine armLdG 24 (.tmp 6) rfl (w.heap.size + 2) rfl (HB6.out.qt QX.out) (.struct ts) HTS.out rfl (by kernel_rfl) (by first | exact wantedT rfl | exact (wantedB rfl rfl rfl).trans rfl) ?_))
        refine (HOBA.out _ QX.out).mono ?_
        rintro e w2 ⟨rfl, q2⟩
        have QX := Lib.hid (QX.out.trans q2)
        clear q2
        go_wp2_with (first
            | (refine armSkip rfl rfl rfl rfl ?_)
            | (refine armLdG 24 (.tmp 4) rfl (w.heap.size) rfl (HB4.out.qt QX.out) (.struct ts) HTS.out rfl (by kernel_rfl) (by first | exact wantedT rfl | exact (wantedB rfl rfl rfl).trans rfl) ?_)
            | (refine armLdG 24 (.tmp 5) rfl (w.heap.size + 1) rfl (HB5.out.qt QX.out) (.struct ts) HTS.out rfl (by kernel_rfl) (by first | exact wantedT rfl | exact (wantedB rfl rfl rfl).trans rfl) ?_)
            | (refine armLdG 24 (.tmp 6) rfl (w.heap.size + 2) rfl (HB6.out.qt QX.out) (.struct ts) HTS.out rfl (by kernel_rfl) (by first | exact wantedT rfl | exact (wantedB rfl rfl rfl).trans rfl) ?_))
        refine (HOAA.out _ QX.out).mono ?_
        rintro e w2 ⟨rfl, q2⟩
        have QX := Lib.hid (QX.out.trans q2)
        clear q2
        go_wp2_with fail
        exact HR.out _ _ _ ⟨rfl, _, _, _, _, _, _, _, _, _, _, _, _, _, _, _, _, _, _, _, _, _, _, _, _, _, _, _, _, _, _, _, _, _, _, _, _, _, _, _, _, _, _, _, _, _, _, _, _, _, _, _, _, _, _, _, rfl, QX.out⟩
    · subst hz
      go_wp2_with (first
          | (refine armSkip rfl rfl rfl rfl ?_)
          | (refine armLdG 24 (.tmp 4) rfl (w.heap.size) rfl (HB4.out.qt QX.out) (.struct ts) HTS.out rfl (by kernel_rfl) (by first | exact wantedT rfl | exact (wantedB rfl rfl rfl).trans rfl) ?_)
          | (refine armLdG 24 (.tmp 5) rfl (w.heap.size + 1) rfl (HB5.out.qt QX.out) (.struct ts) HTS.out rfl (by kernel_rfl) (by first | exact wantedT rfl | exact (wantedB rfl rfl rfl).trans rfl) ?_)
          | (refine armLdG 24 (.tmp 6) rfl (w.heap.size + 2) rfl (HB6.out.qt QX.out) (.struct ts) HTS.out rfl (by kernel_rfl) (by first | exact wantedT rfl | exact (wantedB rfl rfl rfl).trans rfl) ?_))
      refine (HOBA.out _ QX.out).mono ?_
      rintro e w2 ⟨rfl, q2⟩
      have QX := Lib.hid (QX.out.trans q2)
      clear q2
      go_wp2_with (first
          | (refine armSkip rfl rfl rfl rfl ?_)
          | (refine armLdG 24 (.tmp 4) rfl (w.heap.size) rfl (HB4.out.qt QX.out) (.struct ts) HTS.out rfl (by kernel_rfl) (by first | exact wantedT rfl | exact (wantedB rfl rfl rfl).trans rfl) ?_)
          | (refine armLdG 24 (.tmp 5) rfl (w.heap.size + 1) rfl (HB5.out.qt QX.out) (.struct ts) HTS.out rfl (by kernel_rfl) (by first | exact wantedT rfl | exact (wantedB rfl rfl rfl).trans rfl) ?_)
          | (refine armLdG 24 (.tmp 6) rfl (w.heap.size + 2) rfl (HB6.out.qt QX.out) (.struct ts) HTS.out rfl (by kernel_rfl) (by first | exact wantedT rfl | exact (wantedB rfl rfl rfl).trans rfl) ?_))
      refine (HOAA.out _ QX.out).mono ?_
      rintro e w2 ⟨rfl, q2⟩
      have QX := Lib.hid (QX.out.trans q2)
      clear q2
      go_wp2_with fail
      exact HR.out _ _ _ ⟨rfl, _, _, _, _, _, _, _, _, _, _, _, _, _, _, _, _, _, _, _, _, _, _, _, _, _, _, _, _, _, _, _, _, _, _, _, _, _, _, _, _, _, _, _, _, _, _, _, _, _, _, _, _, _, _, _, rfl, QX.out⟩
  obtain ⟨rfl, v8, v15, v16, v17, v18, v19, v20, v21, v22, v23, v24, v25, v26, v27, v28, v29, v30, v31, v32, v33, v34, v35, v36, v37, v38, v39, v40, v41, v42, v43, v44, v45, v46, v47, v48, v49, v50, v51, v52, v53, v54, v55, v56, v57, v58, v59, v60, v61, v62, v63, v64, v65, v66, v67, v68, rfl, qk⟩ := hrel
  have QX := Lib.hid qk
  clear qk
  go_step; go_step; go_step
  rename_i K8 hK8
  refine cutK (fun e a' w' => e = .normal ∧ ∃ v8 v15 v16 v17 v18 v19 v20 v21 v22 v23 v24 v25 v26 v27 v28 v29 v30 v31 v32 v33 v34 v35 v36 v37 v38 v39 v40 v41 v42 v43 v44 v45 v46 v47 v48 v49 v50 v51 v52 v53 v54 v55 v56 v57 v58 v59 v60 v61 v62 v63 v64 v65 v66 v67 v68 v69 v70 v71 v72 v73 v74 v75 v76 v77 v78 v79 v80 v81 v82, a' = (⟨#[.agg #[.slice P1 a.length c1], .agg #[.slice P2 b.length c2], .agg #[.slice P3 c.length c3], .agg (ndc n).toArray, .pointer (some ⟨w.heap.size, 0, none⟩), .pointer (some ⟨w.heap.size + 1, 0, none⟩), .pointer (some ⟨w.heap.size + 2, 0, none⟩), .pointer (some ⟨w.heap.size + 3, 0, none⟩), v8, .int .i64 X, .int .i64 Y, undef, undef, undef, undef, v15, v16, v17, v18, v19, v20, v21, v22, v23, v24, v25, v26, v27, v28, v29, v30, v31, v32, v33, v34, v35, v36, v37, v38, v39, v40, v41, v42, v43, v44, v45, v46, v47, v48, v49, v50, v51, v52, v53, v54, v55, v56, v57, v58, v59, v60, v61, v62, v63, v64, v65, v66, v67, v68, v69, v70, v71, v72, v73, v74, v75, v76, v77, v78, v79, v80, v81, v82, undef, undef, undef, undef, undef, undef, undef, undef, undef, undef, undef, undef, undef, undef, undef, undef, undef, undef, undef, undef, undef, undef, undef, undef, undef, undef, undef, undef, undef, undef, undef, undef, undef, undef, undef, undef, undef, undef, undef, undef, undef, undef, undef, undef, undef, undef, undef, undef, undef, undef, undef, undef, undef, undef, undef, undef, undef, undef, undef, undef, undef, undef, undef, undef, undef, undef, undef, undef, undef, undef, undef, undef, undef, undef, undef, undef, undef, undef, undef, undef, undef, undef, undef, undef], []⟩ : Act) ∧ Qt wb w') (fun e a' w12 hrel => ?_) (fun R hR => ?_)
  rotate_left
  · have HR := Lib.hid hR
    clear hR hK8 K8
    cases ra
    · go_wp2_with (first
          | (refine armSkip rfl rfl rfl rfl ?_)
          | (refine armLdG 24 (.tmp 4) rfl (w.heap.size) rfl (HB4.out.qt QX.out) (.struct ts) HTS.out rfl (by kernel_rfl) (by first | exact wantedT rfl | exact (wantedB rfl rfl rfl).trans rfl) ?_)
          | (refine armLdG 24 (.tmp 5) rfl (w.heap.size + 1) rfl (HB5.out.qt QX.out) (.struct ts) HTS.out rfl (by kernel_rfl) (by first | exact wantedT rfl | exact (wantedB rfl rfl rfl).trans rfl) ?_)
          | (refine armLdG 24 (.tmp 6) rfl (w.heap.size + 2) rfl (HB6.out.qt QX.out) (.struct ts) HTS.out rfl (by kernel_rfl) (by first | exact wantedT rfl | exact (wantedB rfl rfl rfl).trans rfl) ?_))
      refine (HRA.out _ QX.out).mono ?_
      rintro e w2 ⟨rfl, q2⟩
      have QX := Lib.hid (QX.out.trans q2)
      clear q2
      go_wp2_with fail
      exact HR.out _ _ _ ⟨rfl, _, _, _, _, _, _, _, _, _, _, _, _, _, _, _, _, _, _, _, _, _, _, _, _, _, _, _, _, _, _, _, _, _, _, _, _, _, _, _, _, _, _, _, _, _, _, _, _, _, _, _, _, _, _, _, _, _, _, _, _, _, _, _, _, _, _, _, _, _, rfl, QX.out⟩
    · cases rb
      · go_wp2_with (first
            | (refine armSkip rfl rfl rfl rfl ?_)
            | (refine armLdG 24 (.tmp 4) rfl (w.heap.size) rfl (HB4.out.qt QX.out) (.struct ts) HTS.out rfl (by kernel_rfl) (by first | exact wantedT rfl | exact (wantedB rfl rfl rfl).trans rfl) ?_)
            | (refine armLdG 24 (.tmp 5) rfl (w.heap.size + 1) rfl (HB5.out.qt QX.out) (.struct ts) HTS.out rfl (by kernel_rfl) (by first | exact wantedT rfl | exact (wantedB rfl rfl rfl).trans rfl) ?_)
            | (refine armLdG 24 (.tmp 6) rfl (w.heap.size + 2) rfl (HB6.out.qt QX.out) (.struct ts) HTS.out rfl (by kernel_rfl) (by first | exact wantedT rfl | exact (wantedB rfl rfl rfl).trans rfl) ?_))
        refine (HRA.out _ QX.out).mono ?_
        rintro e w2 ⟨rfl, q2⟩
        have QX := Lib.hid (QX.out.trans q2)
        clear q2
        go_wp2_with (first
            | (refine armSkip rfl rfl rfl rfl ?_)
            | (refine armLdG 24 (.tmp 4) rfl (w.heap.size) rfl (HB4.out.qt QX.out) (.struct ts) HTS.out rfl (by kernel_rfl) (by first | exact wantedT rfl | exact (wantedB rfl rfl rfl).trans rfl) ?_)
            | (refine armLdG 24 (.tmp 5) rfl (w.heap.size + 1) rfl (HB5.out.qt QX.out) (.struct ts) HTS.out rfl (by kernel_rfl) (by first | exact wantedT rfl | exact (wantedB rfl rfl rfl).trans rfl) ?_)
            | (refine armLdG 24 (.tmp 6) rfl (w.heap.size + 2) rfl (HB6.out.qt QX.out) (.struct ts) HTS.out rfl (by kernel_rfl) (by first | exact wantedT rfl | exact (wantedB rfl rfl rfl).trans rfl) ?_))
        refine (HRB.out _ QX.out).mono ?_
        rintro e w2 ⟨rfl, q2⟩
        have QX := Lib.hid (QX.out.trans q2)
        clear q2
        go_wp2_with fail
        exact HR.out _ _ _ ⟨rfl, _, _, _, _, _, _, _, _, _, _, _, _, _, _, _, _, _, _, _, _, _, _, _, _, _, _, _, _, _, _, _, _, _, _, _, _, _, _, _, _, _, _, _, _, _, _, _, _, _, _, _, _, _, _, _, _, _, _, _, _, _, _, _, _, _, _, _, _, _, rfl, QX.out⟩
      · go_wp2_with (first
            | (refine armSkip rfl rfl rfl rfl ?_)
            | (refine armLdG 24 (.tmp 4) rfl (w.heap.size) rfl (HB4.out.qt QX.out) (.struct ts) HTS.out rfl (by kernel_rfl) (by first | exact wantedT rfl | exact (wantedB rfl rfl rfl).trans rfl) ?_)
            | (refine armLdG 24 (.tmp 5) rfl (w.heap.size + 1) rfl (HB5.out.qt QX.out) (.struct ts) HTS.out rfl (by kernel_rfl) (by first | exact wantedT rfl | exact (wantedB rfl rfl rfl).trans rfl) ?_)
            | (refine armLdG 24 (.tmp 6) rfl (w.heap.size + 2) rfl (HB6.out.qt QX.out) (.struct ts) HTS.out rfl (by kernel_rfl) (by first | exact wantedT rfl | exact (wantedB rfl rfl rfl).trans rfl) ?_))
        refine (HRA.out _ QX.out).mono ?_
        rintro e w2 ⟨rfl, q2⟩
        have QX := Lib.hid (QX.out.trans q2)
        clear q2
        go_wp2_with (first
            | (refine armSkip rfl rfl rfl rfl ?_)
            | (refine armLdG 24 (.tmp 4) rfl (w.heap.size) rfl (HB4.out.qt QX.out) (.struct ts) HTS.out rfl (by kernel_rfl) (by first | exact wantedT rfl | exact (wantedB rfl rfl rfl).trans rfl) ?_)
            | (refine armLdG 24 (.tmp 5) rfl (w.heap.size + 1) rfl (HB5.out.qt QX.out) (.struct ts) HTS.out rfl (by kernel_rfl) (by first | exact wantedT rfl | exact (wantedB rfl rfl rfl).trans rfl) ?_)
            | (refine armLdG 24 (.tmp 6) rfl (w.heap.size + 2) rfl (HB6.out.qt QX.out) (.struct ts) HTS.out rfl (by kernel_rfl) (by first | exact wantedT rfl | exact (wantedB rfl rfl rfl).trans rfl) ?_))
        refine (HRB.out _ QX.out).mono ?_
        rintro e w2 ⟨rfl, q2⟩
        have QX := Lib.hid (QX.out.trans q2)
        clear q2
        go_wp2_with (first
            | (refine armSkip rfl rfl rfl rfl ?_)
            | (refine armLdG 24 (.tmp 4) rfl (w.heap.size) rfl (HB4.out.qt QX.out) (.struct ts) HTS.out rfl (by kernel_rfl) (by first | exact wantedT rfl | exact (wantedB rfl rfl rfl).trans rfl) ?_)
            | (refine armLdG 24 (.tmp 5) rfl (w.heap.size + 1) rfl (HB5.out.qt QX.out) (.struct ts) HTS.out rfl (by kernel_rfl) (by first | exact wantedT rfl | exact (wantedB rfl rfl rfl).trans rfl) ?_)
            | (refine armLdG 24 (.tmp 6) rfl (w.heap.size + 2) rfl (HB6.out.qt QX.out) (.struct ts) HTS.out rfl (by kernel_rfl) (by first | exact wantedT rfl | exact (wantedB rfl rfl rfl).trans rfl) ?_))
        refine (HST.out _ QX.out).mono ?_
        rintro e w2 ⟨r, rfl, hri, q2⟩
        have QX := Lib.hid (QX.out.trans q2)
        clear q2
        obtain rfl : r = (X == 0) := by
          have h := HRS.out (by first | rfl | trivial) (by first | rfl | trivial)
          by_cases hx : X = 0
          · rw [hri.2 (h.1 hx), hx]; rfl
          · cases r with
            | false => simp [hx]
            | true => exact absurd (h.2 (hri.1 rfl)) hx
        go_wp2_with fail
        exact HR.out _ _ _ ⟨rfl, _, _, _, _, _, _, _, _, _, _, _, _, _, _, _, _, _, _, _, _, _, _, _, _, _, _, _, _, _, _, _, _, _, _, _, _, _, _, _, _, _, _, _, _, _, _, _, _, _, _, _, _, _, _, _, _, _, _, _, _, _, _, _, _, _, _, _, _, _, rfl, QX.out⟩
  obtain ⟨rfl, v8, v15, v16, v17, v18, v19, v20, v21, v22, v23, v24, v25, v26, v27, v28, v29, v30, v31, v32, v33, v34, v35, v36, v37, v38, v39, v40, v41, v42, v43, v44, v45, v46, v47, v48, v49, v50, v51, v52, v53, v54, v55, v56, v57, v58, v59, v60, v61, v62, v63, v64, v65, v66, v67, v68, v69, v70, v71, v72, v73, v74, v75, v76, v77, v78, v79, v80, v81, v82, rfl, qk⟩ := hrel
  have QX := Lib.hid qk
  clear qk
  go_step; go_step; go_step
  have hd0 := HD0.out
  obtain ⟨hda, hdb, hdc⟩ := hd0
  by_cases ha0 : DA = 0
  · have hs0 : sm = false := by cases hs : sm with
      | false => rfl
      | true => have := (HDS.out hs).1; omega
    subst hs0
    subst ha0
    go_wp2_with (first
        | (refine armSkip rfl rfl rfl rfl ?_)
        | (refine armLdG 24 (.tmp 4) rfl (w.heap.size) rfl (HB4.out.qt QX.out) (.struct ts) HTS.out rfl (by kernel_rfl) (by first | exact wantedT rfl | exact (wantedB rfl rfl rfl).trans rfl) ?_)
        | (refine armLdG 24 (.tmp 5) rfl (w.heap.size + 1) rfl (HB5.out.qt QX.out) (.struct ts) HTS.out rfl (by kernel_rfl) (by first | exact wantedT rfl | exact (wantedB rfl rfl rfl).trans rfl) ?_)
        | (refine armLdG 24 (.tmp 6) rfl (w.heap.size + 2) rfl (HB6.out.qt QX.out) (.struct ts) HTS.out rfl (by kernel_rfl) (by first | exact wantedT rfl | exact (wantedB rfl rfl rfl).trans rfl) ?_))
    refine (HDA.out _ QX.out).mono ?_
    rintro e w2 ⟨rfl, q2⟩
    have QX := Lib.hid (QX.out.trans q2)
    clear q2
    go_wp2_with (first
        | (refine armSkip rfl rfl rfl rfl ?_)
        | (refine armLdG 24 (.tmp 4) rfl (w.heap.size) rfl (HB4.out.qt QX.out) (.struct ts) HTS.out rfl (by kernel_rfl) (by first | exact wantedT rfl | exact (wantedB rfl rfl rfl).trans rfl) ?_)
        | (refine armLdG 24 (.tmp 5) rfl (w.heap.size + 1) rfl (HB5.out.qt QX.out) (.struct ts) HTS.out rfl (by kernel_rfl) (by first | exact wantedT rfl | exact (wantedB rfl rfl rfl).trans rfl) ?_)
        | (refine armLdG 24 (.tmp 6) rfl (w.heap.size + 2) rfl (HB6.out.qt QX.out) (.struct ts) HTS.out rfl (by kernel_rfl) (by first | exact wantedT rfl | exact (wantedB rfl rfl rfl).trans rfl) ?_))
    refine (HSM.out _ QX.out).mono ?_
    rintro e w2 ⟨rfl, q2⟩
    have QX := Lib.hid (QX.out.trans q2)
    clear q2
    go_wp2_with fail
    go_ret
    exact ⟨rfl, Q0.out.trans QX.out⟩
  have ga1 : (DA == 0) = false := by simpa using ha0
  have ga2 : 0 < DA := by omega
  by_cases hb0 : DB = 0
  · have hs0 : sm = false := by cases hs : sm with
      | false => rfl
      | true => have := (HDS.out hs).2; omega
    subst hs0
    subst hb0
    go_wp2_with (first
        | (refine armSkip rfl rfl rfl rfl ?_)
        | (refine armLdG 24 (.tmp 4) rfl (w.heap.size) rfl (HB4.out.qt QX.out) (.struct ts) HTS.out rfl (by kernel_rfl) (by first | exact wantedT rfl | exact (wantedB rfl rfl rfl).trans rfl) ?_)
        | (refine armLdG 24 (.tmp 5) rfl (w.heap.size + 1) rfl (HB5.out.qt QX.out) (.struct ts) HTS.out rfl (by kernel_rfl) (by first | exact wantedT rfl | exact (wantedB rfl rfl rfl).trans rfl) ?_)
        | (refine armLdG 24 (.tmp 6) rfl (w.heap.size + 2) rfl (HB6.out.qt QX.out) (.struct ts) HTS.out rfl (by kernel_rfl) (by first | exact wantedT rfl | exact (wantedB rfl rfl rfl).trans rfl) ?_))
    refine (HDA.out _ QX.out).mono ?_
    rintro e w2 ⟨rfl, q2⟩
    have QX := Lib.hid (QX.out.trans q2)
    clear q2
    go_wp2_with (first
        | (refine armSkip rfl rfl rfl rfl ?_)
        | (refine armLdG 24 (.tmp 4) rfl (w.heap.size) rfl (HB4.out.qt QX.out) (.struct ts) HTS.out rfl (by kernel_rfl) (by first | exact wantedT rfl | exact (wantedB rfl rfl rfl).trans rfl) ?_)
        | (refine armLdG 24 (.tmp 5) rfl (w.heap.size + 1) rfl (HB5.out.qt QX.out) (.struct ts) HTS.out rfl (by kernel_rfl) (by first | exact wantedT rfl | exact (wantedB rfl rfl rfl).trans rfl) ?_)
        | (refine armLdG 24 (.tmp 6) rfl (w.heap.size + 2) rfl (HB6.out.qt QX.out) (.struct ts) HTS.out rfl (by kernel_rfl) (by first | exact wantedT rfl | exact (wantedB rfl rfl rfl).trans rfl) ?_))
    refine (HDB.out _ QX.out).mono ?_
    rintro e w2 ⟨rfl, q2⟩
    have QX := Lib.hid (QX.out.trans q2)
    clear q2
    go_wp2_with (first
        | (refine armSkip rfl rfl rfl rfl ?_)
        | (refine armLdG 24 (.tmp 4) rfl (w.heap.size) rfl (HB4.out.qt QX.out) (.struct ts) HTS.out rfl (by kernel_rfl) (by first | exact wantedT rfl | exact (wantedB rfl rfl rfl).trans rfl) ?_)
        | (refine armLdG 24 (.tmp 5) rfl (w.heap.size + 1) rfl (HB5.out.qt QX.out) (.struct ts) HTS.out rfl (by kernel_rfl) (by first | exact wantedT rfl | exact (wantedB rfl rfl rfl).trans rfl) ?_)
        | (refine armLdG 24 (.tmp 6) rfl (w.heap.size + 2) rfl (HB6.out.qt QX.out) (.struct ts) HTS.out rfl (by kernel_rfl) (by first | exact wantedT rfl | exact (wantedB rfl rfl rfl).trans rfl) ?_))
    refine (HSM.out _ QX.out).mono ?_
    rintro e w2 ⟨rfl, q2⟩
    have QX := Lib.hid (QX.out.trans q2)
    clear q2
    go_wp2_with fail
    go_ret
    exact ⟨rfl, Q0.out.trans QX.out⟩
  have gb1 : (DB == 0) = false := by simpa using hb0
  have gb2 : 0 < DB := by omega
  by_cases hc0 : DC = 0
  · subst hc0
    cases sm
    · go_wp2_with (first
          | (refine armSkip rfl rfl rfl rfl ?_)
          | (refine armLdG 24 (.tmp 4) rfl (w.heap.size) rfl (HB4.out.qt QX.out) (.struct ts) HTS.out rfl (by kernel_rfl) (by first | exact wantedT rfl | exact (wantedB rfl rfl rfl).trans rfl) ?_)
          | (refine armLdG 24 (.tmp 5) rfl (w.heap.size + 1) rfl (HB5.out.qt QX.out) (.struct ts) HTS.out rfl (by kernel_rfl) (by first | exact wantedT rfl | exact (wantedB rfl rfl rfl).trans rfl) ?_)
          | (refine armLdG 24 (.tmp 6) rfl (w.heap.size + 2) rfl (HB6.out.qt QX.out) (.struct ts) HTS.out rfl (by kernel_rfl) (by first | exact wantedT rfl | exact (wantedB rfl rfl rfl).trans rfl) ?_))
      refine (HDA.out _ QX.out).mono ?_
      rintro e w2 ⟨rfl, q2⟩
      have QX := Lib.hid (QX.out.trans q2)
      clear q2
      go_wp2_with (first
          | (refine armSkip rfl rfl rfl rfl ?_)
          | (refine armLdG 24 (.tmp 4) rfl (w.heap.size) rfl (HB4.out.qt QX.out) (.struct ts) HTS.out rfl (by kernel_rfl) (by first | exact wantedT rfl | exact (wantedB rfl rfl rfl).trans rfl) ?_)
          | (refine armLdG 24 (.tmp 5) rfl (w.heap.size + 1) rfl (HB5.out.qt QX.out) (.struct ts) HTS.out rfl (by kernel_rfl) (by first | exact wantedT rfl | exact (wantedB rfl rfl rfl).trans rfl) ?_)
          | (refine armLdG 24 (.tmp 6) rfl (w.heap.size + 2) rfl (HB6.out.qt QX.out) (.struct ts) HTS.out rfl (by kernel_rfl) (by first | exact wantedT rfl | exact (wantedB rfl rfl rfl).trans rfl) ?_))
      refine (HDB.out _ QX.out).mono ?_
      rintro e w2 ⟨rfl, q2⟩
      have QX := Lib.hid (QX.out.trans q2)
      clear q2
      go_wp2_with (first
          | (refine armSkip rfl rfl rfl rfl ?_)
          | (refine armLdG 24 (.tmp 4) rfl (w.heap.size) rfl (HB4.out.qt QX.out) (.struct ts) HTS.out rfl (by kernel_rfl) (by first | exact wantedT rfl | exact (wantedB rfl rfl rfl).trans rfl) ?_)
          | (refine armLdG 24 (.tmp 5) rfl (w.heap.size + 1) rfl (HB5.out.qt QX.out) (.struct ts) HTS.out rfl (by kernel_rfl) (by first | exact wantedT rfl | exact (wantedB rfl rfl rfl).trans rfl) ?_)
          | (refine armLdG 24 (.tmp 6) rfl (w.heap.size + 2) rfl (HB6.out.qt QX.out) (.struct ts) HTS.out rfl (by kernel_rfl) (by first | exact wantedT rfl | exact (wantedB rfl rfl rfl).trans rfl) ?_))
      refine (HDC.out _ QX.out).mono ?_
      rintro e w2 ⟨rfl, q2⟩
      have QX := Lib.hid (QX.out.trans q2)
      clear q2
      go_wp2_with (first
          | (refine armSkip rfl rfl rfl rfl ?_)
          | (refine armLdG 24 (.tmp 4) rfl (w.heap.size) rfl (HB4.out.qt QX.out) (.struct ts) HTS.out rfl (by kernel_rfl) (by first | exact wantedT rfl | exact (wantedB rfl rfl rfl).trans rfl) ?_)
          | (refine armLdG 24 (.tmp 5) rfl (w.heap.size + 1) rfl (HB5.out.qt QX.out) (.struct ts) HTS.out rfl (by kernel_rfl) (by first | exact wantedT rfl | exact (wantedB rfl rfl rfl).trans rfl) ?_)
          | (refine armLdG 24 (.tmp 6) rfl (w.heap.size + 2) rfl (HB6.out.qt QX.out) (.struct ts) HTS.out rfl (by kernel_rfl) (by first | exact wantedT rfl | exact (wantedB rfl rfl rfl).trans rfl) ?_))
      refine (HSM.out _ QX.out).mono ?_
      rintro e w2 ⟨rfl, q2⟩
      have QX := Lib.hid (QX.out.trans q2)
      clear q2
      go_wp2_with fail
      go_ret
      exact ⟨rfl, Q0.out.trans QX.out⟩
    · go_wp2_with (first
          | (refine armSkip rfl rfl rfl rfl ?_)
          | (refine armLdG 24 (.tmp 4) rfl (w.heap.size) rfl (HB4.out.qt QX.out) (.struct ts) HTS.out rfl (by kernel_rfl) (by first | exact wantedT rfl | exact (wantedB rfl rfl rfl).trans rfl) ?_)
          | (refine armLdG 24 (.tmp 5) rfl (w.heap.size + 1) rfl (HB5.out.qt QX.out) (.struct ts) HTS.out rfl (by kernel_rfl) (by first | exact wantedT rfl | exact (wantedB rfl rfl rfl).trans rfl) ?_)
          | (refine armLdG 24 (.tmp 6) rfl (w.heap.size + 2) rfl (HB6.out.qt QX.out) (.struct ts) HTS.out rfl (by kernel_rfl) (by first | exact wantedT rfl | exact (wantedB rfl rfl rfl).trans rfl) ?_))
      refine (HDA.out _ QX.out).mono ?_
      rintro e w2 ⟨rfl, q2⟩
      have QX := Lib.hid (QX.out.trans q2)
      clear q2
      go_wp2_with (first
          | (refine armSkip rfl rfl rfl rfl ?_)
          | (refine armLdG 24 (.tmp 4) rfl (w.heap.size) rfl (HB4.out.qt QX.out) (.struct ts) HTS.out rfl (by kernel_rfl) (by first | exact wantedT rfl | exact (wantedB rfl rfl rfl).trans rfl) ?_)
          | (refine armLdG 24 (.tmp 5) rfl (w.heap.size + 1) rfl (HB5.out.qt QX.out) (.struct ts) HTS.out rfl (by kernel_rfl) (by first | exact wantedT rfl | exact (wantedB rfl rfl rfl).trans rfl) ?_)
          | (refine armLdG 24 (.tmp 6) rfl (w.heap.size + 2) rfl (HB6.out.qt QX.out) (.struct ts) HTS.out rfl (by kernel_rfl) (by first | exact wantedT rfl | exact (wantedB rfl rfl rfl).trans rfl) ?_))
      refine (HDB.out _ QX.out).mono ?_
      rintro e w2 ⟨rfl, q2⟩
      have QX := Lib.hid (QX.out.trans q2)
      clear q2
      go_wp2_with (first
          | (refine armSkip rfl rfl rfl rfl ?_)
          | (refine armLdG 24 (.tmp 4) rfl (w.heap.size) rfl (HB4.out.qt QX.out) (.struct ts) HTS.out rfl (by kernel_rfl) (by first | exact wantedT rfl | exact (wantedB rfl rfl rfl).trans rfl) ?_)
          | (refine armLdG 24 (.tmp 5) rfl (w.heap.size + 1) rfl (HB5.out.qt QX.out) (.struct ts) HTS.out rfl (by kernel_rfl) (by first | exact wantedT rfl | exact (wantedB rfl rfl rfl).trans rfl) ?_)
          | (refine armLdG 24 (.tmp 6) rfl (w.heap.size + 2) rfl (HB6.out.qt QX.out) (.struct ts) HTS.out rfl (by kernel_rfl) (by first | exact wantedT rfl | exact (wantedB rfl rfl rfl).trans rfl) ?_))
      refine (HDC.out _ QX.out).mono ?_
      rintro e w2 ⟨rfl, q2⟩
      have QX := Lib.hid (QX.out.trans q2)
      clear q2
      go_wp2_with (first
          | (refine armSkip rfl rfl rfl rfl ?_)
          | (refine armLdG 24 (.tmp 4) rfl (w.heap.size) rfl (HB4.out.qt QX.out) (.struct ts) HTS.out rfl (by kernel_rfl) (by first | exact wantedT rfl | exact (wantedB rfl rfl rfl).trans rfl) ?_)
          | (refine armLdG 24 (.tmp 5) rfl (w.heap.size + 1) rfl (HB5.out.qt QX.out) (.struct ts) HTS.out rfl (by kernel_rfl) (by first | exact wantedT rfl | exact (wantedB rfl rfl rfl).trans rfl) ?_)
          | (refine armLdG 24 (.tmp 6) rfl (w.heap.size + 2) rfl (HB6.out.qt QX.out) (.struct ts) HTS.out rfl (by kernel_rfl) (by first | exact wantedT rfl | exact (wantedB rfl rfl rfl).trans rfl) ?_))
      refine (HSM.out _ QX.out).mono ?_
      rintro e w2 ⟨rfl, q2⟩
      have QX := Lib.hid (QX.out.trans q2)
      clear q2
      go_wp2_with (first
          | (refine armSkip rfl rfl rfl rfl ?_)
          | (refine armLdG 24 (.tmp 4) rfl (w.heap.size) rfl (HB4.out.qt QX.out) (.struct ts) HTS.out rfl (by kernel_rfl) (by first | exact wantedT rfl | exact (wantedB rfl rfl rfl).trans rfl) ?_)
          | (refine armLdG 24 (.tmp 5) rfl (w.heap.size + 1) rfl (HB5.out.qt QX.out) (.struct ts) HTS.out rfl (by kernel_rfl) (by first | exact wantedT rfl | exact (wantedB rfl rfl rfl).trans rfl) ?_)
          | (refine armLdG 24 (.tmp 6) rfl (w.heap.size + 2) rfl (HB6.out.qt QX.out) (.struct ts) HTS.out rfl (by kernel_rfl) (by first | exact wantedT rfl | exact (wantedB rfl rfl rfl).trans rfl) ?_))
      refine (HDA.out _ QX.out).mono ?_
      rintro e w2 ⟨rfl, q2⟩
      have QX := Lib.hid (QX.out.trans q2)
      clear q2
      go_wp2_with (first
          | (refine armSkip rfl rfl rfl rfl ?_)
          | (refine armLdG 24 (.tmp 4) rfl (w.heap.size) rfl (HB4.out.qt QX.out) (.struct ts) HTS.out rfl (by kernel_rfl) (by first | exact wantedT rfl | exact (wantedB rfl rfl rfl).trans rfl) ?_)
          | (refine armLdG 24 (.tmp 5) rfl (w.heap.size + 1) rfl (HB5.out.qt QX.out) (.struct ts) HTS.out rfl (by kernel_rfl) (by first | exact wantedT rfl | exact (wantedB rfl rfl rfl).trans rfl) ?_)
          | (refine armLdG 24 (.tmp 6) rfl (w.heap.size + 2) rfl (HB6.out.qt QX.out) (.struct ts) HTS.out rfl (by kernel_rfl) (by first | exact wantedT rfl | exact (wantedB rfl rfl rfl).trans rfl) ?_))
      refine (HDB.out _ QX.out).mono ?_
      rintro e w2 ⟨rfl, q2⟩
      have QX := Lib.hid (QX.out.trans q2)
      clear q2
      go_wp2_with fail
      go_ret
      exact ⟨rfl, Q0.out.trans QX.out⟩
  have gc1 : (DC == 0) = false := by simpa using hc0
  go_wp2_with (first
      | (refine armSkip rfl rfl rfl rfl ?_)
      | (refine armLdG 24 (.tmp 4) rfl (w.heap.size) rfl (HB4.out.qt QX.out) (.struct ts) HTS.out rfl (by kernel_rfl) (by first | exact wantedT rfl | exact (wantedB rfl rfl rfl).trans rfl) ?_)
      | (refine armLdG 24 (.tmp 5) rfl (w.heap.size + 1) rfl (HB5.out.qt QX.out) (.struct ts) HTS.out rfl (by kernel_rfl) (by first | exact wantedT rfl | exact (wantedB rfl rfl rfl).trans rfl) ?_)
      | (refine armLdG 24 (.tmp 6) rfl (w.heap.size + 2) rfl (HB6.out.qt QX.out) (.struct ts) HTS.out rfl (by kernel_rfl) (by first | exact wantedT rfl | exact (wantedB rfl rfl rfl).trans rfl) ?_))
  refine (HDA.out _ QX.out).mono ?_
  rintro e w2 ⟨rfl, q2⟩
  have QX := Lib.hid (QX.out.trans q2)
  clear q2
  go_wp2_with (first
      | (refine armSkip rfl rfl rfl rfl ?_)
      | (refine armLdG 24 (.tmp 4) rfl (w.heap.size) rfl (HB4.out.qt QX.out) (.struct ts) HTS.out rfl (by kernel_rfl) (by first | exact wantedT rfl | exact (wantedB rfl rfl rfl).trans rfl) ?_)
      | (refine armLdG 24 (.tmp 5) rfl (w.heap.size + 1) rfl (HB5.out.qt QX.out) (.struct ts) HTS.out rfl (by kernel_rfl) (by first | exact wantedT rfl | exact (wantedB rfl rfl rfl).trans rfl) ?_)
      | (refine armLdG 24 (.tmp 6) rfl (w.heap.size + 2) rfl (HB6.out.qt QX.out) (.struct ts) HTS.out rfl (by kernel_rfl) (by first | exact wantedT rfl | exact (wantedB rfl rfl rfl).trans rfl) ?_))
  refine (HDB.out _ QX.out).mono ?_
  rintro e w2 ⟨rfl, q2⟩
  have QX := Lib.hid (QX.out.trans q2)
  clear q2
  go_wp2_with (first
      | (refine armSkip rfl rfl rfl rfl ?_)
      | (refine armLdG 24 (.tmp 4) rfl (w.heap.size) rfl (HB4.out.qt QX.out) (.struct ts) HTS.out rfl (by kernel_rfl) (by first | exact wantedT rfl | exact (wantedB rfl rfl rfl).trans rfl) ?_)
      | (refine armLdG 24 (.tmp 5) rfl (w.heap.size + 1) rfl (HB5.out.qt QX.out) (.struct ts) HTS.out rfl (by kernel_rfl) (by first | exact wantedT rfl | exact (wantedB rfl rfl rfl).trans rfl) ?_)
      | (refine armLdG 24 (.tmp 6) rfl (w.heap.size + 2) rfl (HB6.out.qt QX.out) (.struct ts) HTS.out rfl (by kernel_rfl) (by first | exact wantedT rfl | exact (wantedB rfl rfl rfl).trans rfl) ?_))
  refine (HDC.out _ QX.out).mono ?_
  rintro e w2 ⟨rfl, q2⟩
  have QX := Lib.hid (QX.out.trans q2)
  clear q2
  go_wp2_with fail
  refine wp_region_held (S := (fun u => u.rangeAt (w.heap.size) 0 [.slice P1 a.length c1] ∧ u.rangeAt (w.heap.size + 1) 0 [.slice P2 b.length c2] ∧ u.rangeAt (w.heap.size + 2) 0 [.slice P3 c.length c3] ∧ u.rangeAt (w.heap.size + 3) 0 (ndc n))) (by kernel_rfl) ?_
  change wpAnyH _ _ _ _ _ _ _ _ (World.drew _)
  refine genT fun F0 hA => ?_
  have z0 : F0.tmps.size = 167 := by rw [hA]; rfl
  have e4_0 : F0.eval (.tmp 4) = .pointer (some ⟨w.heap.size, 0, none⟩) := by rw [hA]; rfl
  have e5_0 : F0.eval (.tmp 5) = .pointer (some ⟨w.heap.size + 1, 0, none⟩) := by rw [hA]; rfl
  have e6_0 : F0.eval (.tmp 6) = .pointer (some ⟨w.heap.size + 2, 0, none⟩) := by rw [hA]; rfl
  have e7_0 : F0.eval (.tmp 7) = .pointer (some ⟨w.heap.size + 3, 0, none⟩) := by rw [hA]; rfl
  have HA := Lib.hid hA
  clear hA
  have HS := Lib.hid (show World.rangeAt (World.drew _) _ _ _ ∧ World.rangeAt (World.drew _) _ _ _ ∧ World.rangeAt (World.drew _) _ _ _ ∧ World.rangeAt (World.drew _) _ _ _ from ⟨(show Blk (World.drew _) _ _ _ from (HB4.out.qt QX.out.drew)).range 0 [.slice P1 a.length c1] rfl, (show Blk (World.drew _) _ _ _ from (HB5.out.qt QX.out.drew)).range 0 [.slice P2 b.length c2] rfl, (show Blk (World.drew _) _ _ _ from (HB6.out.qt QX.out.drew)).range 0 [.slice P3 c.length c3] rfl, (show Blk (World.drew _) _ _ _ from (HB7.out.qt QX.out.drew)).range 0 (ndc n) rfl⟩)
  refine tkT (i := 0) (oi := _) (v := .agg (ndc n).toArray) rfl (by kernel_rfl) (by kernel_rfl) (by kernel_rfl) (fun _ _ _ h => h) HS.out (wantedT rfl) (fun w hs => lrT rfl e7_0 hs.2.2.2 (d := .struct ns) HNS.out rfl (by kernel_rfl)) ?_
  intro F1 hF
  replace hF : F1 = F0.put (some 110) (.agg (ndc n).toArray) := hF
  have z1 : F1.tmps.size = 167 := by rw [hF]; simpa [Act.put] using z0
  have e4_1 := (show F1.eval (.tmp 4) = F0.eval (.tmp 4) by rw [hF]; exact evO (by decide)).trans e4_0
  have e5_1 := (show F1.eval (.tmp 5) = F0.eval (.tmp 5) by rw [hF]; exact evO (by decide)).trans e5_0
  have e6_1 := (show F1.eval (.tmp 6) = F0.eval (.tmp 6) by rw [hF]; exact evO (by decide)).trans e6_0
  have e7_1 := (show F1.eval (.tmp 7) = F0.eval (.tmp 7) by rw [hF]; exact evO (by decide)).trans e7_0
  have e110_1 : F1.eval (.tmp 110) = .agg (ndc n).toArray := by rw [hF]; exact evS (by rw [z0]; decide)
  have HF1 := Lib.hid hF
  clear hF e4_0 e5_0 e6_0 e7_0
  refine tkT (i := 1) (oi := _) (v := .agg #[.slice P3 c.length c3]) rfl (by kernel_rfl) (by kernel_rfl) (by kernel_rfl) (fun _ _ _ h => h) HS.out (wantedT rfl) (fun w hs => lrT rfl e6_1 hs.2.2.1 (d := .struct ts) HTS.out rfl (by kernel_rfl)) ?_
  intro F2 hF
  replace hF : F2 = F1.put (some 111) (.agg #[.slice P3 c.length c3]) := hF
  have z2 : F2.tmps.size = 167 := by rw [hF]; simpa [Act.put] using z1
  have e4_2 := (show F2.eval (.tmp 4) = F1.eval (.tmp 4) by rw [hF]; exact evO (by decide)).trans e4_1
  have e5_2 := (show F2.eval (.tmp 5) = F1.eval (.tmp 5) by rw [hF]; exact evO (by decide)).trans e5_1
  have e6_2 := (show F2.eval (.tmp 6) = F1.eval (.tmp 6) by rw [hF]; exact evO (by decide)).trans e6_1
  have e7_2 := (show F2.eval (.tmp 7) = F1.eval (.tmp 7) by rw [hF]; exact evO (by decide)).trans e7_1
  have e110_2 := (show F2.eval (.tmp 110) = F1.eval (.tmp 110) by rw [hF]; exact evO (by decide)).trans e110_1
  have e111_2 : F2.eval (.tmp 111) = .agg #[.slice P3 c.length c3] := by rw [hF]; exact evS (by rw [z1]; decide)
  have HF2 := Lib.hid hF
  clear hF e4_1 e5_1 e6_1 e7_1 e110_1
  refine tkT (i := 2) (oi := _) (v := .agg #[.slice P1 a.length c1]) rfl (by kernel_rfl) (by kernel_rfl) (by kernel_rfl) (fun _ _ _ h => h) HS.out (wantedT rfl) (fun w hs => lrT rfl e4_2 hs.1 (d := .struct ts) HTS.out rfl (by kernel_rfl)) ?_
  intro F3 hF
  replace hF : F3 = F2.put (some 112) (.agg #[.slice P1 a.length c1]) := hF
  have z3 : F3.tmps.size = 167 := by rw [hF]; simpa [Act.put] using z2
  have e4_3 := (show F3.eval (.tmp 4) = F2.eval (.tmp 4) by rw [hF]; exact evO (by decide)).trans e4_2
  have e5_3 := (show F3.eval (.tmp 5) = F2.eval (.tmp 5) by rw [hF]; exact evO (by decide)).trans e5_2
  have e6_3 := (show F3.eval (.tmp 6) = F2.eval (.tmp 6) by rw [hF]; exact evO (by decide)).trans e6_2
  have e7_3 := (show F3.eval (.tmp 7) = F2.eval (.tmp 7) by rw [hF]; exact evO (by decide)).trans e7_2
  have e110_3 := (show F3.eval (.tmp 110) = F2.eval (.tmp 110) by rw [hF]; exact evO (by decide)).trans e110_2
  have e111_3 := (show F3.eval (.tmp 111) = F2.eval (.tmp 111) by rw [hF]; exact evO (by decide)).trans e111_2
  have e112_3 : F3.eval (.tmp 112) = .agg #[.slice P1 a.length c1] := by rw [hF]; exact evS (by rw [z2]; decide)
  have HF3 := Lib.hid hF
  clear hF e4_2 e5_2 e6_2 e7_2 e110_2 e111_2
  refine tkT (i := 3) (oi := _) (v := .agg #[.slice P3 c.length c3]) rfl (by kernel_rfl) (by kernel_rfl) (by kernel_rfl) (fun _ _ _ h => h) HS.out (wantedT rfl) (fun w hs => lrT rfl e6_3 hs.2.2.1 (d := .struct ts) HTS.out rfl (by kernel_rfl)) ?_
  intro F4 hF
  replace hF : F4 = F3.put (some 113) (.agg #[.slice P3 c.length c3]) := hF
  have z4 : F4.tmps.size = 167 := by rw [hF]; simpa [Act.put] using z3
  have e4_4 := (show F4.eval (.tmp 4) = F3.eval (.tmp 4) by rw [hF]; exact evO (by decide)).trans e4_3
  have e5_4 := (show F4.eval (.tmp 5) = F3.eval (.tmp 5) by rw [hF]; exact evO (by decide)).trans e5_3
  have e6_4 := (show F4.eval (.tmp 6) = F3.eval (.tmp 6) by rw [hF]; exact evO (by decide)).trans e6_3
  have e7_4 := (show F4.eval (.tmp 7) = F3.eval (.tmp 7) by rw [hF]; exact evO (by decide)).trans e7_3
  have e110_4 := (show F4.eval (.tmp 110) = F3.eval (.tmp 110) by rw [hF]; exact evO (by decide)).trans e110_3
  have e111_4 := (show F4.eval (.tmp 111) = F3.eval (.tmp 111) by rw [hF]; exact evO (by decide)).trans e111_3
  have e112_4 := (show F4.eval (.tmp 112) = F3.eval (.tmp 112) by rw [hF]; exact evO (by decide)).trans e112_3
  have e113_4 : F4.eval (.tmp 113) = .agg #[.slice P3 c.length c3] := by rw [hF]; exact evS (by rw [z3]; decide)
  have HF4 := Lib.hid hF
  clear hF e4_3 e5_3 e6_3 e7_3 e110_3 e111_3 e112_3
  refine tkT (i := 6) (oi := _) (v := .agg (ndc n).toArray) rfl (by kernel_rfl) (by kernel_rfl) (by kernel_rfl) (fun _ _ _ h => h) HS.out (wantedT rfl) (fun w hs => lrT rfl e7_4 hs.2.2.2 (d := .struct ns) HNS.out rfl (by kernel_rfl)) ?_
  intro F5 hF
  replace hF : F5 = F4.put (some 116) (.agg (ndc n).toArray) := hF
  have z5 : F5.tmps.size = 167 := by rw [hF]; simpa [Act.put] using z4
  have e4_5 := (show F5.eval (.tmp 4) = F4.eval (.tmp 4) by rw [hF]; exact evO (by decide)).trans e4_4
  have e5_5 := (show F5.eval (.tmp 5) = F4.eval (.tmp 5) by rw [hF]; exact evO (by decide)).trans e5_4
  have e6_5 := (show F5.eval (.tmp 6) = F4.eval (.tmp 6) by rw [hF]; exact evO (by decide)).trans e6_4
  have e110_5 := (show F5.eval (.tmp 110) = F4.eval (.tmp 110) by rw [hF]; exact evO (by decide)).trans e110_4
  have e111_5 := (show F5.eval (.tmp 111) = F4.eval (.tmp 111) by rw [hF]; exact evO (by decide)).trans e111_4
  have e112_5 := (show F5.eval (.tmp 112) = F4.eval (.tmp 112) by rw [hF]; exact evO (by decide)).trans e112_4
  have e113_5 := (show F5.eval (.tmp 113) = F4.eval (.tmp 113) by rw [hF]; exact evO (by decide)).trans e113_4
  have e116_5 : F5.eval (.tmp 116) = .agg (ndc n).toArray := by rw [hF]; exact evS (by rw [z4]; decide)
  have HF5 := Lib.hid hF
  clear hF e4_4 e5_4 e6_4 e7_4 e110_4 e111_4 e112_4 e113_4
  refine tkT (i := 7) (oi := _) (v := .agg #[.slice P3 c.length c3]) rfl (by kernel_rfl) (by kernel_rfl) (by kernel_rfl) (fun _ _ _ h => h) HS.out (wantedT rfl) (fun w hs => lrT rfl e6_5 hs.2.2.1 (d := .struct ts) HTS.out rfl (by kernel_rfl)) ?_
  intro F6 hF
  replace hF : F6 = F5.put (some 117) (.agg #[.slice P3 c.length c3]) := hF
  have z6 : F6.tmps.size = 167 := by rw [hF]; simpa [Act.put] using z5
  have e4_6 := (show F6.eval (.tmp 4) = F5.eval (.tmp 4) by rw [hF]; exact evO (by decide)).trans e4_5
  have e5_6 := (show F6.eval (.tmp 5) = F5.eval (.tmp 5) by rw [hF]; exact evO (by decide)).trans e5_5
  have e110_6 := (show F6.eval (.tmp 110) = F5.eval (.tmp 110) by rw [hF]; exact evO (by decide)).trans e110_5
  have e111_6 := (show F6.eval (.tmp 111) = F5.eval (.tmp 111) by rw [hF]; exact evO (by decide)).trans e111_5
  have e112_6 := (show F6.eval (.tmp 112) = F5.eval (.tmp 112) by rw [hF]; exact evO (by decide)).trans e112_5
  have e113_6 := (show F6.eval (.tmp 113) = F5.eval (.tmp 113) by rw [hF]; exact evO (by decide)).trans e113_5
  have e116_6 := (show F6.eval (.tmp 116) = F5.eval (.tmp 116) by rw [hF]; exact evO (by decide)).trans e116_5
  have e117_6 : F6.eval (.tmp 117) = .agg #[.slice P3 c.length c3] := by rw [hF]; exact evS (by rw [z5]; decide)
  have HF6 := Lib.hid hF
  clear hF e4_5 e5_5 e6_5 e110_5 e111_5 e112_5 e113_5 e116_5
  refine tkT (i := 8) (oi := _) (v := .agg #[.slice P2 b.length c2]) rfl (by kernel_rfl) (by kernel_rfl) (by kernel_rfl) (fun _ _ _ h => h) HS.out (wantedT rfl) (fun w hs => lrT rfl e5_6 hs.2.1 (d := .struct ts) HTS.out rfl (by kernel_rfl)) ?_
  intro F7 hF
  replace hF : F7 = F6.put (some 118) (.agg #[.slice P2 b.length c2]) := hF
  have z7 : F7.tmps.size = 167 := by rw [hF]; simpa [Act.put] using z6
  have e4_7 := (show F7.eval (.tmp 4) = F6.eval (.tmp 4) by rw [hF]; exact evO (by decide)).trans e4_6
  have e110_7 := (show F7.eval (.tmp 110) = F6.eval (.tmp 110) by rw [hF]; exact evO (by decide)).trans e110_6
  have e111_7 := (show F7.eval (.tmp 111) = F6.eval (.tmp 111) by rw [hF]; exact evO (by decide)).trans e111_6
  have e112_7 := (show F7.eval (.tmp 112) = F6.eval (.tmp 112) by rw [hF]; exact evO (by decide)).trans e112_6
  have e113_7 := (show F7.eval (.tmp 113) = F6.eval (.tmp 113) by rw [hF]; exact evO (by decide)).trans e113_6
  have e116_7 := (show F7.eval (.tmp 116) = F6.eval (.tmp 116) by rw [hF]; exact evO (by decide)).trans e116_6
  have e117_7 := (show F7.eval (.tmp 117) = F6.eval (.tmp 117) by rw [hF]; exact evO (by decide)).trans e117_6
  have e118_7 : F7.eval (.tmp 118) = .agg #[.slice P2 b.length c2] := by rw [hF]; exact evS (by rw [z6]; decide)
  have HF7 := Lib.hid hF
  clear hF e4_6 e5_6 e110_6 e111_6 e112_6 e113_6 e116_6 e117_6
  refine tkT (i := 9) (oi := _) (v := .agg #[.slice P1 a.length c1]) rfl (by kernel_rfl) (by kernel_rfl) (by kernel_rfl) (fun _ _ _ h => h) HS.out (wantedT rfl) (fun w hs => lrT rfl e4_7 hs.1 (d := .struct ts) HTS.out rfl (by kernel_rfl)) ?_
  intro F8 hF
  replace hF : F8 = F7.put (some 119) (.agg #[.slice P1 a.length c1]) := hF
  have z8 : F8.tmps.size = 167 := by rw [hF]; simpa [Act.put] using z7
  have e110_8 := (show F8.eval (.tmp 110) = F7.eval (.tmp 110) by rw [hF]; exact evO (by decide)).trans e110_7
  have e111_8 := (show F8.eval (.tmp 111) = F7.eval (.tmp 111) by rw [hF]; exact evO (by decide)).trans e111_7
  have e112_8 := (show F8.eval (.tmp 112) = F7.eval (.tmp 112) by rw [hF]; exact evO (by decide)).trans e112_7
  have e113_8 := (show F8.eval (.tmp 113) = F7.eval (.tmp 113) by rw [hF]; exact evO (by decide)).trans e113_7
  have e116_8 := (show F8.eval (.tmp 116) = F7.eval (.tmp 116) by rw [hF]; exact evO (by decide)).trans e116_7
  have e117_8 := (show F8.eval (.tmp 117) = F7.eval (.tmp 117) by rw [hF]; exact evO (by decide)).trans e117_7
  have e118_8 := (show F8.eval (.tmp 118) = F7.eval (.tmp 118) by rw [hF]; exact evO (by decide)).trans e118_7
  have e119_8 : F8.eval (.tmp 119) = .agg #[.slice P1 a.length c1] := by rw [hF]; exact evS (by rw [z7]; decide)
  have HF8 := Lib.hid hF
  clear hF e4_7 e110_7 e111_7 e112_7 e113_7 e116_7 e117_7 e118_7
  have HFR := Lib.hid (rfl : F8 = F8)
  refine wpAnyH_free [4, 5, 10, 11, 12, 13] [12, 13] (fun i => if i = 5 then [4] else if i = 11 then [10, 5] else []) (fun i => [0, 0, 0, 0, 114, 115, 0, 0, 0, 0, 120, 121, 11, 12, 0, 0].getD i 0) (RR wb.heap.size n [c, a, c] [c, b, a] (fun i => [9, 9, 9, 9, 0, 1, 9, 9, 9, 9, 2, 3, 4, 4, 9, 9].getD i 9)) [#[true, true, true, true, false, false, true, true, true, true, false, false, false, false, false, false], #[true, true, true, true, true, false, true, true, true, true, false, false, false, false, false, false], #[true, true, true, true, false, false, true, true, true, true, true, false, false, false, false, false], #[true, true, true, true, false, false, true, true, true, true, false, false, true, false, false, false], #[true, true, true, true, false, false, true, true, true, true, false, false, false, true, false, false], #[true, true, true, true, true, true, true, true, true, true, false, false, false, false, false, false], #[true, true, true, true, true, false, true, true, true, true, true, false, false, false, false, false], #[true, true, true, true, true, false, true, true, true, true, false, false, true, false, false, false], #[true, true, true, true, true, false, true, true, true, true, false, false, false, true, false, false], #[true, true, true, true, false, false, true, true, true, true, true, false, true, false, false, false], #[true, true, true, true, false, false, true, true, true, true, true, false, false, true, false, false], #[true, true, true, true, false, false, true, true, true, true, false, false, true, true, false, false], #[true, true, true, true, true, true, true, true, true, true, true, false, false, false, false, false], #[true, true, true, true, true, true, true, true, true, true, false, false, true, false, false, false], #[true, true, true, true, true, true, true, true, true, true, false, false, false, true, false, false], #[true, true, true, true, true, false, true, true, true, true, true, false, true, false, false, false], #[true, true, true, true, true, false, true, true, true, true, true, false, false, true, false, false], #[true, true, true, true, true, false, true, true, true, true, false, false, true, true, false, false], #[true, true, true, true, false, false, true, true, true, true, true, false, true, true, false, false], #[true, true, true, true, true, true, true, true, true, true, true, true, false, false, false, false], #[true, true, true, true, true, true, true, true, true, true, true, false, true, false, false, false], #[true, true, true, true, true, true, true, true, true, true, true, false, false, true, false, false], #[true, true, true, true, true, true, true, true, true, true, false, false, true, true, false, false], #[true, true, true, true, true, false, true, true, true, true, true, false, true, true, false, false], #[true, true, true, true, true, true, true, true, true, true, true, true, true, false, false, false], #[true, true, true, true, true, true, true, true, true, true, true, true, false, true, false, false], #[true, true, true, true, true, true, true, true, true, true, true, false, true, true, false, false], #[true, true, true, true, true, true, true, true, true, true, true, true, true, true, false, false]] (fun l => (l.toList.filter (fun b => !b)).length - 2) F8 _ 2 RR.qt (fun w' q => And.intro (rangeQt HS.out.1 q) (And.intro (rangeQt HS.out.2.1 q) (And.intro (rangeQt HS.out.2.2.1 q) (rangeQt HS.out.2.2.2 q)))) (by rw [z8]; decide) (by decide) (by decide) (by decide +kernel) (by decide +kernel) ?_ (by decide +kernel) ?_ 6 _ (by decide +kernel) (by decide +kernel) (by decide +kernel)
  · intro i hi a' wq K' q hsz hfr hpre hK
    have QQ := Lib.hid (QX.out.drew.trans q)
    simp only [List.mem_cons, List.not_mem_nil, or_false] at hi
    rcases hi with rfl | rfl | rfl | rfl | rfl | rfl
    · refine manyT (i := 4) (oi := _) rfl (wantedT rfl) ?_
      refine wpRun (v := .slice (some ⟨wq.heap.size, 0, none⟩) 3 3) (w' := wq.alloc (.cells #[.slice P3 c.length c3, .slice P1 a.length c1, .slice P3 c.length c3] 24)) (bsT rfl (vals := #[(0, .agg #[.slice P3 c.length c3]), (1, .agg #[.slice P1 a.length c1]), (2, .agg #[.slice P3 c.length c3])]) (by simp only [List.map_toArray, List.map_cons, List.map_nil, (hfr 111 (by decide)).trans e111_8, (hfr 112 (by decide)).trans e112_8, (hfr 113 (by decide)).trans e113_8]) (by go_simp)) ?_
      exact hK _ _ ((Qt.refl _).alloc _) (TmB.mk (terms3 (heap_alloc_new _ _) (LC.out.up (QQ.out.alloc _)) (LA.out.up (QQ.out.alloc _)) (LC.out.up (QQ.out.alloc _)))) (fun h => absurd h (by decide))
    · refine manyT (i := 5) (oi := _) rfl (wantedT rfl) ?_
      obtain ⟨g, hg, tg⟩ := (show TmB [c, a, c] (a'.eval (.tmp 114)) wq from hpre 4 (by decide))
      refine wpCall (clT (f := 19) (args := #[.agg (ndc n).toArray, .slice (some ⟨g, 0, none⟩) 3 3]) rfl (by simp only [List.map_toArray, List.map_cons, List.map_nil, (hfr 110 (by decide)).trans e110_8, hg] <;> rfl) (fun args w => by kernel_rfl)) (fun v w' => Qt wq w' ∧ TmC (joinL n [c, a, c]) v w') ((join_any n [c, a, c] _ 3 wq (by show 3 ≤ 1000; decide) (by have := HLA.out; have := HLB.out; have := HLC.out; simp only [List.flatten_cons, List.flatten_nil, List.length_append, List.length_nil]; omega) tg).mono ?_) ?_
      · rintro e w' ⟨A', c', rfl, l, q2⟩
        exact ⟨_, rfl, q2, TmC.mk l.lt⟩
      · rintro v w' ⟨q2, hr⟩
        exact hK _ _ q2 hr (fun h => absurd h (by decide))
    · refine manyT (i := 10) (oi := _) rfl (wantedT rfl) ?_
      refine wpRun (v := .slice (some ⟨wq.heap.size, 0, none⟩) 3 3) (w' := wq.alloc (.cells #[.slice P3 c.length c3, .slice P2 b.length c2, .slice P1 a.length c1] 24)) (bsT rfl (vals := #[(0, .agg #[.slice P3 c.length c3]), (1, .agg #[.slice P2 b.length c2]), (2, .agg #[.slice P1 a.length c1])]) (by simp only [List.map_toArray, List.map_cons, List.map_nil, (hfr 117 (by decide)).trans e117_8, (hfr 118 (by decide)).trans e118_8, (hfr 119 (by decide)).trans e119_8]) (by go_simp)) ?_
      exact hK _ _ ((Qt.refl _).alloc _) (TmB.mk (terms3 (heap_alloc_new _ _) (LC.out.up (QQ.out.alloc _)) (LB.out.up (QQ.out.alloc _)) (LA.out.up (QQ.out.alloc _)))) (fun h => absurd h (by decide))
    · refine manyT (i := 11) (oi := _) rfl (wantedT rfl) ?_
      obtain ⟨g, hg, tg⟩ := (show TmB [c, b, a] (a'.eval (.tmp 120)) wq from hpre 10 (by decide))
      refine wpCall (clT (f := 19) (args := #[.agg (ndc n).toArray, .slice (some ⟨g, 0, none⟩) 3 3]) rfl (by simp only [List.map_toArray, List.map_cons, List.map_nil, (hfr 116 (by decide)).trans e116_8, hg] <;> rfl) (fun args w => by kernel_rfl)) (fun v w' => Qt wq w' ∧ TmC (joinL n [c, b, a]) v w') ((join_any n [c, b, a] _ 3 wq (by show 3 ≤ 1000; decide) (by have := HLA.out; have := HLB.out; have := HLC.out; simp only [List.flatten_cons, List.flatten_nil, List.length_append, List.length_nil]; omega) tg).mono ?_) ?_
      · rintro e w' ⟨A', c', rfl, l, q2⟩
        exact ⟨_, rfl, q2, TmC.mk l.lt⟩
      · rintro v w' ⟨q2, hr⟩
        exact hK _ _ q2 hr (fun h => absurd h (by decide))
    · refine manyT (i := 12) (oi := _) rfl (wantedT rfl) ?_
      refine wpAl rfl [.slice none 0 0] (fun w => by go_simp) ?_
      intro g w' qa sa ba
      refine hK _ _ qa (TmA.mk (Nat.le_trans QQ.out.size sa) ba) (fun _ j hj u hr => ?_)
      simp only [List.mem_cons, List.not_mem_nil, or_false] at hj
      exact (show TmA wb.heap.size u wq by rcases hj with rfl | rfl <;> exact hr).ne sa
    · refine manyT (i := 13) (oi := _) rfl (wantedT rfl) ?_
      refine wpAl rfl [.slice none 0 0] (fun w => by go_simp) ?_
      intro g w' qa sa ba
      refine hK _ _ qa (TmA.mk (Nat.le_trans QQ.out.size sa) ba) (fun _ j hj u hr => ?_)
      simp only [List.mem_cons, List.not_mem_nil, or_false] at hj
      exact (show TmA wb.heap.size u wq by rcases hj with rfl | rfl <;> exact hr).ne sa
  intro listed hL hl0 a' wq hsz hdf hfr q hr hne
  have hl : ∀ l ∈ ([#[true, true, true, true, false, false, true, true, true, true, false, false, false, false, false, false], #[true, true, true, true, true, false, true, true, true, true, false, false, false, false, false, false], #[true, true, true, true, false, false, true, true, true, true, true, false, false, false, false, false], #[true, true, true, true, false, false, true, true, true, true, false, false, true, false, false, false], #[true, true, true, true, false, false, true, true, true, true, false, false, false, true, false, false], #[true, true, true, true, true, true, true, true, true, true, false, false, false, false, false, false], #[true, true, true, true, true, false, true, true, true, true, true, false, false, false, false, false], #[true, true, true, true, true, false, true, true, true, true, false, false, true, false, false, false], #[true, true, true, true, true, false, true, true, true, true, false, false, false, true, false, false], #[true, true, true, true, false, false, true, true, true, true, true, false, true, false, false, false], #[true, true, true, true, false, false, true, true, true, true, true, false, false, true, false, false], #[true, true, true, true, false, false, true, true, true, true, false, false, true, true, false, false], #[true, true, true, true, true, true, true, true, true, true, true, false, false, false, false, false], #[true, true, true, true, true, true, true, true, true, true, false, false, true, false, false, false], #[true, true, true, true, true, true, true, true, true, true, false, false, false, true, false, false], #[true, true, true, true, true, false, true, true, true, true, true, false, true, false, false, false], #[true, true, true, true, true, false, true, true, true, true, true, false, false, true, false, false], #[true, true, true, true, true, false, true, true, true, true, false, false, true, true, false, false], #[true, true, true, true, false, false, true, true, true, true, true, false, true, true, false, false], #[true, true, true, true, true, true, true, true, true, true, true, true, false, false, false, false], #[true, true, true, true, true, true, true, true, true, true, true, false, true, false, false, false], #[true, true, true, true, true, true, true, true, true, true, true, false, false, true, false, false], #[true, true, true, true, true, true, true, true, true, true, false, false, true, true, false, false], #[true, true, true, true, true, false, true, true, true, true, true, false, true, true, false, false], #[true, true, true, true, true, true, true, true, true, true, true, true, true, false, false, false], #[true, true, true, true, true, true, true, true, true, true, true, true, false, true, false, false], #[true, true, true, true, true, true, true, true, true, true, true, false, true, true, false, false], #[true, true, true, true, true, true, true, true, true, true, true, true, true, true, false, false]] : List (Array Bool)), (l.toList.filter (fun b => !b)).length - 2 = 0 → l = #[true, true, true, true, true, true, true, true, true, true, true, true, true, true, false, false] := by decide +kernel
  obtain rfl := hl listed hL hl0
  clear hL hl0 hl
  obtain ⟨g1, hg1, t1⟩ := (show TmB [c, a, c] (a'.eval (.tmp 114)) wq from hr 4 (by decide))
  obtain ⟨g2, hg2, t2⟩ := (show TmB [c, b, a] (a'.eval (.tmp 120)) wq from hr 10 (by decide))
  obtain ⟨Pp, cp, hvp, lp⟩ := (show TmC (joinL n [c, a, c]) (a'.eval (.tmp 115)) wq from hr 5 (by decide))
  obtain ⟨Pq, cq, hvq, lq⟩ := (show TmC (joinL n [c, b, a]) (a'.eval (.tmp 121)) wq from hr 11 (by decide))
  obtain ⟨gp, hbp, hpp, bp⟩ := (show TmA wb.heap.size (a'.eval (.tmp 11)) wq from hr 12 (by decide))
  obtain ⟨gq, hbq, hpq, bq⟩ := (show TmA wb.heap.size (a'.eval (.tmp 12)) wq from hr 13 (by decide))
  have hne2 : gp ≠ gq := fun e => hne 12 (by decide) 13 (by decide) (by decide) (show a'.eval (.tmp 11) = a'.eval (.tmp 12) by rw [hpp, hpq, e])
  have hE : a' = ((((((F8.put (some 114) (.slice (some ⟨g1, 0, none⟩) 3 3)).put (some 115) (.agg #[.slice Pp (joinL n [c, a, c]).length cp])).put (some 120) (.slice (some ⟨g2, 0, none⟩) 3 3)).put (some 121) (.agg #[.slice Pq (joinL n [c, b, a]).length cq])).put (some 11) (.pointer (some ⟨gp, 0, none⟩))).put (some 12) (.pointer (some ⟨gq, 0, none⟩))) := by
    refine act_ext (by simpa [Act.put] using hsz) (by simpa [Act.put] using hdf) (fun s => ?_)
    by_cases s12 : s = 12
    · subst s12; rw [evS (by simp [Act.put, z8])]; exact hpq
    rw [evO (fun e => s12 e.symm)]
    by_cases s11 : s = 11
    · subst s11; rw [evS (by simp [Act.put, z8])]; exact hpp
    rw [evO (fun e => s11 e.symm)]
    by_cases s121 : s = 121
    · subst s121; rw [evS (by simp [Act.put, z8])]; exact hvq
    rw [evO (fun e => s121 e.symm)]
    by_cases s120 : s = 120
    · subst s120; rw [evS (by simp [Act.put, z8])]; exact hg2
    rw [evO (fun e => s120 e.symm)]
    by_cases s115 : s = 115
    · subst s115; rw [evS (by simp [Act.put, z8])]; exact hvp
    rw [evO (fun e => s115 e.symm)]
    by_cases s114 : s = 114
    · subst s114; rw [evS (by simp [Act.put, z8])]; exact hg1
    rw [evO (fun e => s114 e.symm)]
    refine hfr s (fun i hi => ?_)
    simp only [List.mem_cons, List.not_mem_nil, or_false] at hi
    rcases hi with rfl | rfl | rfl | rfl | rfl | rfl
    · exact fun e => s114 e.symm
    · exact fun e => s115 e.symm
    · exact fun e => s120 e.symm
    · exact fun e => s121 e.symm
    · exact fun e => s11 e.symm
    · exact fun e => s12 e.symm
  have qb := QX.out.drew.trans q
  refine aloneT (i := 14) (oi := _) rfl (by kernel_rfl) (wantedT rfl) ?_
  refine wpStM rfl hpp (cells := [.slice Pp (joinL n [c, a, c]).length cp]) hvp (t := 24) (c := [.slice none 0 0]) bp (by show 1 ≤ 1; decide) (by kernel_rfl) (by intro u hu; rw [List.mem_singleton.1 hu]; rfl) ?_
  intro w7 og7 hz7 hb7
  have q7 : Qt wb w7 := og7.qt qb hbp
  have bq7 := bq.og og7 (fun e => hne2 e.symm)
  have lp7 := lp.og bp og7 hz7
  have lq7 := lq.og bp og7 hz7
  refine ⟨⟨(HB4.out.qt q7).range 0 [.slice P1 a.length c1] rfl, (HB5.out.qt q7).range 0 [.slice P2 b.length c2] rfl, (HB6.out.qt q7).range 0 [.slice P3 c.length c3] rfl, (HB7.out.qt q7).range 0 (ndc n) rfl⟩, ?_⟩
  refine aloneT (i := 15) (oi := _) rfl (by kernel_rfl) (wantedT rfl) ?_
  refine wpStM (a := a') rfl hpq (cells := [.slice Pq (joinL n [c, b, a]).length cq]) hvq (t := 24) (c := [.slice none 0 0]) bq7 (by show 1 ≤ 1; decide) (by kernel_rfl) (by intro u hu; rw [List.mem_singleton.1 hu]; rfl) ?_
  intro w8 og8 hz8 hb8
  have q8 : Qt wb w8 := og8.qt q7 hbq
  have HBp := Lib.hid (show Blk w8 gp 24 [.slice Pp (joinL n [c, a, c]).length cp] from (show Blk w7 gp 24 [.slice Pp (joinL n [c, a, c]).length cp] from hb7).og og8 hne2)
  have HBq := Lib.hid (show Blk w8 gq 24 [.slice Pq (joinL n [c, b, a]).length cq] from hb8)
  have Lp := Lib.hid (lp7.og bq7 og8 hz8)
  have Lq := Lib.hid (lq7.og bq7 og8 hz8)
  refine ⟨⟨(HB4.out.qt q8).range 0 [.slice P1 a.length c1] rfl, (HB5.out.qt q8).range 0 [.slice P2 b.length c2] rfl, (HB6.out.qt q8).range 0 [.slice P3 c.length c3] rfl, (HB7.out.qt q8).range 0 (ndc n) rfl⟩, ?_⟩
  refine wpAnyH_done (by kernel_rfl) ?_ _
  rw [hE, HF8.out, HF7.out, HF6.out, HF5.out, HF4.out, HF3.out, HF2.out, HF1.out, HA.out]
  simp only [Act.put, List.setIfInBounds_toArray, List.set_cons_succ, List.set_cons_zero]
  have QX := Lib.hid q8
  clear hE hsz hdf hfr hr hne q qb q7 q8 og7 og8 hz7 hz8 hb7 hb8 lp lq lp7 lq7 bp bq bq7 t1 t2 hg1 hg2 hvp hvq hpp hpq
  go_wp2_with fail
  have HB4 := Lib.hid (HB4.out.qt QX.out); have HB5 := Lib.hid (HB5.out.qt QX.out); have HB6 := Lib.hid (HB6.out.qt QX.out); have HB7 := Lib.hid (HB7.out.qt QX.out)
  have LA := Lib.hid (LA.out.up QX.out); have LB := Lib.hid (LB.out.up QX.out); have LC := Lib.hid (LC.out.up QX.out)
  have QW := Lib.hid QX.out
  have QX := Lib.hid (Qt.refl w8)
  refine wp_region_held (S := (fun u => u.rangeAt (w.heap.size) 0 [.slice P1 a.length c1] ∧ u.rangeAt (w.heap.size + 1) 0 [.slice P2 b.length c2] ∧ u.rangeAt (w.heap.size + 2) 0 [.slice P3 c.length c3] ∧ u.rangeAt (w.heap.size + 3) 0 (ndc n))) (by kernel_rfl) ?_
  change wpAnyH _ _ _ _ _ _ _ _ (World.drew _)
  refine genT fun F0 hA => ?_
  have z0 : F0.tmps.size = 167 := by rw [hA]; rfl
  have e4_0 : F0.eval (.tmp 4) = .pointer (some ⟨w.heap.size, 0, none⟩) := by rw [hA]; rfl
  have e5_0 : F0.eval (.tmp 5) = .pointer (some ⟨w.heap.size + 1, 0, none⟩) := by rw [hA]; rfl
  have e6_0 : F0.eval (.tmp 6) = .pointer (some ⟨w.heap.size + 2, 0, none⟩) := by rw [hA]; rfl
  have e7_0 : F0.eval (.tmp 7) = .pointer (some ⟨w.heap.size + 3, 0, none⟩) := by rw [hA]; rfl
  have HA := Lib.hid hA
  clear hA
  have HS := Lib.hid (show World.rangeAt (World.drew _) _ _ _ ∧ World.rangeAt (World.drew _) _ _ _ ∧ World.rangeAt (World.drew _) _ _ _ ∧ World.rangeAt (World.drew _) _ _ _ from ⟨(show Blk (World.drew _) _ _ _ from (HB4.out.qt QX.out.drew)).range 0 [.slice P1 a.length c1] rfl, (show Blk (World.drew _) _ _ _ from (HB5.out.qt QX.out.drew)).range 0 [.slice P2 b.length c2] rfl, (show Blk (World.drew _) _ _ _ from (HB6.out.qt QX.out.drew)).range 0 [.slice P3 c.length c3] rfl, (show Blk (World.drew _) _ _ _ from (HB7.out.qt QX.out.drew)).range 0 (ndc n) rfl⟩)
  refine tkT (i := 0) (oi := _) (v := .agg (ndc n).toArray) rfl (by kernel_rfl) (by kernel_rfl) (by kernel_rfl) (fun _ _ _ h => h) HS.out (wantedT rfl) (fun w hs => lrT rfl e7_0 hs.2.2.2 (d := .struct ns) HNS.out rfl (by kernel_rfl)) ?_
  intro F1 hF
  replace hF : F1 = F0.put (some 122) (.agg (ndc n).toArray) := hF
  have z1 : F1.tmps.size = 167 := by rw [hF]; simpa [Act.put] using z0
  have e4_1 := (show F1.eval (.tmp 4) = F0.eval (.tmp 4) by rw [hF]; exact evO (by decide)).trans e4_0
  have e5_1 := (show F1.eval (.tmp 5) = F0.eval (.tmp 5) by rw [hF]; exact evO (by decide)).trans e5_0
  have e6_1 := (show F1.eval (.tmp 6) = F0.eval (.tmp 6) by rw [hF]; exact evO (by decide)).trans e6_0
  have e7_1 := (show F1.eval (.tmp 7) = F0.eval (.tmp 7) by rw [hF]; exact evO (by decide)).trans e7_0
  have e122_1 : F1.eval (.tmp 122) = .agg (ndc n).toArray := by rw [hF]; exact evS (by rw [z0]; decide)
  have HF1 := Lib.hid hF
  clear hF e4_0 e5_0 e6_0 e7_0
  refine tkT (i := 1) (oi := _) (v := .agg #[.slice P3 c.length c3]) rfl (by kernel_rfl) (by kernel_rfl) (by kernel_rfl) (fun _ _ _ h => h) HS.out (wantedT rfl) (fun w hs => lrT rfl e6_1 hs.2.2.1 (d := .struct ts) HTS.out rfl (by kernel_rfl)) ?_
  intro F2 hF
  replace hF : F2 = F1.put (some 123) (.agg #[.slice P3 c.length c3]) := hF
  have z2 : F2.tmps.size = 167 := by rw [hF]; simpa [Act.put] using z1
  have e4_2 := (show F2.eval (.tmp 4) = F1.eval (.tmp 4) by rw [hF]; exact evO (by decide)).trans e4_1
  have e5_2 := (show F2.eval (.tmp 5) = F1.eval (.tmp 5) by rw [hF]; exact evO (by decide)).trans e5_1
  have e6_2 := (show F2.eval (.tmp 6) = F1.eval (.tmp 6) by rw [hF]; exact evO (by decide)).trans e6_1
  have e7_2 := (show F2.eval (.tmp 7) = F1.eval (.tmp 7) by rw [hF]; exact evO (by decide)).trans e7_1
  have e122_2 := (show F2.eval (.tmp 122) = F1.eval (.tmp 122) by rw [hF]; exact evO (by decide)).trans e122_1
  have e123_2 : F2.eval (.tmp 123) = .agg #[.slice P3 c.length c3] := by rw [hF]; exact evS (by rw [z1]; decide)
  have HF2 := Lib.hid hF
  clear hF e4_1 e5_1 e6_1 e7_1 e122_1
  refine tkT (i := 2) (oi := _) (v := .agg #[.slice P1 a.length c1]) rfl (by kernel_rfl) (by kernel_rfl) (by kernel_rfl) (fun _ _ _ h => h) HS.out (wantedT rfl) (fun w hs => lrT rfl e4_2 hs.1 (d := .struct ts) HTS.out rfl (by kernel_rfl)) ?_
  intro F3 hF
  replace hF : F3 = F2.put (some 124) (.agg #[.slice P1 a.length c1]) := hF
  have z3 : F3.tmps.size = 167 := by rw [hF]; simpa [Act.put] using z2
  have e5_3 := (show F3.eval (.tmp 5) = F2.eval (.tmp 5) by rw [hF]; exact evO (by decide)).trans e5_2
  have e6_3 := (show F3.eval (.tmp 6) = F2.eval (.tmp 6) by rw [hF]; exact evO (by decide)).trans e6_2
  have e7_3 := (show F3.eval (.tmp 7) = F2.eval (.tmp 7) by rw [hF]; exact evO (by decide)).trans e7_2
  have e122_3 := (show F3.eval (.tmp 122) = F2.eval (.tmp 122) by rw [hF]; exact evO (by decide)).trans e122_2
  have e123_3 := (show F3.eval (.tmp 123) = F2.eval (.tmp 123) by rw [hF]; exact evO (by decide)).trans e123_2
  have e124_3 : F3.eval (.tmp 124) = .agg #[.slice P1 a.length c1] := by rw [hF]; exact evS (by rw [z2]; decide)
  have HF3 := Lib.hid hF
  clear hF e4_2 e5_2 e6_2 e7_2 e122_2 e123_2
  refine tkT (i := 5) (oi := _) (v := .agg (ndc n).toArray) rfl (by kernel_rfl) (by kernel_rfl) (by kernel_rfl) (fun _ _ _ h => h) HS.out (wantedT rfl) (fun w hs => lrT rfl e7_3 hs.2.2.2 (d := .struct ns) HNS.out rfl (by kernel_rfl)) ?_
  intro F4 hF
  replace hF : F4 = F3.put (some 127) (.agg (ndc n).toArray) := hF
  have z4 : F4.tmps.size = 167 := by rw [hF]; simpa [Act.put] using z3
  have e5_4 := (show F4.eval (.tmp 5) = F3.eval (.tmp 5) by rw [hF]; exact evO (by decide)).trans e5_3
  have e6_4 := (show F4.eval (.tmp 6) = F3.eval (.tmp 6) by rw [hF]; exact evO (by decide)).trans e6_3
  have e122_4 := (show F4.eval (.tmp 122) = F3.eval (.tmp 122) by rw [hF]; exact evO (by decide)).trans e122_3
  have e123_4 := (show F4.eval (.tmp 123) = F3.eval (.tmp 123) by rw [hF]; exact evO (by decide)).trans e123_3
  have e124_4 := (show F4.eval (.tmp 124) = F3.eval (.tmp 124) by rw [hF]; exact evO (by decide)).trans e124_3
  have e127_4 : F4.eval (.tmp 127) = .agg (ndc n).toArray := by rw [hF]; exact evS (by rw [z3]; decide)
  have HF4 := Lib.hid hF
  clear hF e5_3 e6_3 e7_3 e122_3 e123_3 e124_3
  refine tkT (i := 6) (oi := _) (v := .agg #[.slice P3 c.length c3]) rfl (by kernel_rfl) (by kernel_rfl) (by kernel_rfl) (fun _ _ _ h => h) HS.out (wantedT rfl) (fun w hs => lrT rfl e6_4 hs.2.2.1 (d := .struct ts) HTS.out rfl (by kernel_rfl)) ?_
  intro F5 hF
  replace hF : F5 = F4.put (some 128) (.agg #[.slice P3 c.length c3]) := hF
  have z5 : F5.tmps.size = 167 := by rw [hF]; simpa [Act.put] using z4
  have e5_5 := (show F5.eval (.tmp 5) = F4.eval (.tmp 5) by rw [hF]; exact evO (by decide)).trans e5_4
  have e122_5 := (show F5.eval (.tmp 122) = F4.eval (.tmp 122) by rw [hF]; exact evO (by decide)).trans e122_4
  have e123_5 := (show F5.eval (.tmp 123) = F4.eval (.tmp 123) by rw [hF]; exact evO (by decide)).trans e123_4
  have e124_5 := (show F5.eval (.tmp 124) = F4.eval (.tmp 124) by rw [hF]; exact evO (by decide)).trans e124_4
  have e127_5 := (show F5.eval (.tmp 127) = F4.eval (.tmp 127) by rw [hF]; exact evO (by decide)).trans e127_4
  have e128_5 : F5.eval (.tmp 128) = .agg #[.slice P3 c.length c3] := by rw [hF]; exact evS (by rw [z4]; decide)
  have HF5 := Lib.hid hF
  clear hF e5_4 e6_4 e122_4 e123_4 e124_4 e127_4
  refine tkT (i := 7) (oi := _) (v := .agg #[.slice P2 b.length c2]) rfl (by kernel_rfl) (by kernel_rfl) (by kernel_rfl) (fun _ _ _ h => h) HS.out (wantedT rfl) (fun w hs => lrT rfl e5_5 hs.2.1 (d := .struct ts) HTS.out rfl (by kernel_rfl)) ?_
  intro F6 hF
  replace hF : F6 = F5.put (some 129) (.agg #[.slice P2 b.length c2]) := hF
  have z6 : F6.tmps.size = 167 := by rw [hF]; simpa [Act.put] using z5
  have e122_6 := (show F6.eval (.tmp 122) = F5.eval (.tmp 122) by rw [hF]; exact evO (by decide)).trans e122_5
  have e123_6 := (show F6.eval (.tmp 123) = F5.eval (.tmp 123) by rw [hF]; exact evO (by decide)).trans e123_5
  have e124_6 := (show F6.eval (.tmp 124) = F5.eval (.tmp 124) by rw [hF]; exact evO (by decide)).trans e124_5
  have e127_6 := (show F6.eval (.tmp 127) = F5.eval (.tmp 127) by rw [hF]; exact evO (by decide)).trans e127_5
  have e128_6 := (show F6.eval (.tmp 128) = F5.eval (.tmp 128) by rw [hF]; exact evO (by decide)).trans e128_5
  have e129_6 : F6.eval (.tmp 129) = .agg #[.slice P2 b.length c2] := by rw [hF]; exact evS (by rw [z5]; decide)
  have HF6 := Lib.hid hF
  clear hF e5_5 e122_5 e123_5 e124_5 e127_5 e128_5
  have HFR := Lib.hid (rfl : F6 = F6)
  refine wpAnyH_free [3, 4, 8, 9, 10, 11] [10, 11] (fun i => if i = 4 then [3] else if i = 9 then [8, 4] else []) (fun i => [0, 0, 0, 125, 126, 0, 0, 0, 130, 131, 13, 14, 0, 0].getD i 0) (RR w8.heap.size n [c, a] [c, b] (fun i => [9, 9, 9, 0, 1, 9, 9, 9, 2, 3, 4, 4, 9, 9].getD i 9)) [#[true, true, true, false, false, true, true, true, false, false, false, false, false, false], #[true, true, true, true, false, true, true, true, false, false, false, false, false, false], #[true, true, true, false, false, true, true, true, true, false, false, false, false, false], #[true, true, true, false, false, true, true, true, false, false, true, false, false, false], #[true, true, true, false, false, true, true, true, false, false, false, true, false, false], #[true, true, true, true, true, true, true, true, false, false, false, false, false, false], #[true, true, true, true, false, true, true, true, true, false, false, false, false, false], #[true, true, true, true, false, true, true, true, false, false, true, false, false, false], #[true, true, true, true, false, true, true, true, false, false, false, true, false, false], #[true, true, true, false, false, true, true, true, true, false, true, false, false, false], #[true, true, true, false, false, true, true, true, true, false, false, true, false, false], #[true, true, true, false, false, true, true, true, false, false, true, true, false, false], #[true, true, true, true, true, true, true, true, true, false, false, false, false, false], #[true, true, true, true, true, true, true, true, false, false, true, false, false, false], #[true, true, true, true, true, true, true, true, false, false, false, true, false, false], #[true, true, true, true, false, true, true, true, true, false, true, false, false, false], #[true, true, true, true, false, true, true, true, true, false, false, true, false, false], #[true, true, true, true, false, true, true, true, false, false, true, true, false, false], #[true, true, true, false, false, true, true, true, true, false, true, true, false, false], #[true, true, true, true, true, true, true, true, true, true, false, false, false, false], #[true, true, true, true, true, true, true, true, true, false, true, false, false, false], #[true, true, true, true, true, true, true, true, true, false, false, true, false, false], #[true, true, true, true, true, true, true, true, false, false, true, true, false, false], #[true, true, true, true, false, true, true, true, true, false, true, true, false, false], #[true, true, true, true, true, true, true, true, true, true, true, false, false, false], #[true, true, true, true, true, true, true, true, true, true, false, true, false, false], #[true, true, true, true, true, true, true, true, true, false, true, true, false, false], #[true, true, true, true, true, true, true, true, true, true, true, true, false, false]] (fun l => (l.toList.filter (fun b => !b)).length - 2) F6 _ 2 RR.qt (fun w' q => And.intro (rangeQt HS.out.1 q) (And.intro (rangeQt HS.out.2.1 q) (And.intro (rangeQt HS.out.2.2.1 q) (rangeQt HS.out.2.2.2 q)))) (by rw [z6]; decide) (by decide) (by decide) (by decide +kernel) (by decide +kernel) ?_ (by decide +kernel) ?_ 6 _ (by decide +kernel) (by decide +kernel) (by decide +kernel)
  · intro i hi a' wq K' q hsz hfr hpre hK
    have QQ := Lib.hid (QX.out.drew.trans q)
    simp only [List.mem_cons, List.not_mem_nil, or_false] at hi
    rcases hi with rfl | rfl | rfl | rfl | rfl | rfl
    · refine manyT (i := 3) (oi := _) rfl (wantedT rfl) ?_
      refine wpRun (v := .slice (some ⟨wq.heap.size, 0, none⟩) 2 2) (w' := wq.alloc (.cells #[.slice P3 c.length c3, .slice P1 a.length c1] 24)) (bsT rfl (vals := #[(0, .agg #[.slice P3 c.length c3]), (1, .agg #[.slice P1 a.length c1])]) (by simp only [List.map_toArray, List.map_cons, List.map_nil, (hfr 123 (by decide)).trans e123_6, (hfr 124 (by decide)).trans e124_6]) (by go_simp)) ?_
      exact hK _ _ ((Qt.refl _).alloc _) (TmB.mk (terms2 (heap_alloc_new _ _) (LC.out.up (QQ.out.alloc _)) (LA.out.up (QQ.out.alloc _)))) (fun h => absurd h (by decide))
    · refine manyT (i := 4) (oi := _) rfl (wantedT rfl) ?_
      obtain ⟨g, hg, tg⟩ := (show TmB [c, a] (a'.eval (.tmp 125)) wq from hpre 3 (by decide))
      refine wpCall (clT (f := 19) (args := #[.agg (ndc n).toArray, .slice (some ⟨g, 0, none⟩) 2 2]) rfl (by simp only [List.map_toArray, List.map_cons, List.map_nil, (hfr 122 (by decide)).trans e122_6, hg] <;> rfl) (fun args w => by kernel_rfl)) (fun v w' => Qt wq w' ∧ TmC (joinL n [c, a]) v w') ((join_any n [c, a] _ 2 wq (by show 2 ≤ 1000; decide) (by have := HLA.out; have := HLB.out; have := HLC.out; simp only [List.flatten_cons, List.flatten_nil, List.length_append, List.length_nil]; omega) tg).mono ?_) ?_
      · rintro e w' ⟨A', c', rfl, l, q2⟩
        exact ⟨_, rfl, q2, TmC.mk l.lt⟩
      · rintro v w' ⟨q2, hr⟩
        exact hK _ _ q2 hr (fun h => absurd h (by decide))
    · refine manyT (i := 8) (oi := _) rfl (wantedT rfl) ?_
      refine wpRun (v := .slice (some ⟨wq.heap.size, 0, none⟩) 2 2) (w' := wq.alloc (.cells #[.slice P3 c.length c3, .slice P2 b.length c2] 24)) (bsT rfl (vals := #[(0, .agg #[.slice P3 c.length c3]), (1, .agg #[.slice P2 b.length c2])]) (by simp only [List.map_toArray, List.map_cons, List.map_nil, (hfr 128 (by decide)).trans e128_6, (hfr 129 (by decide)).trans e129_6]) (by go_simp)) ?_
      exact hK _ _ ((Qt.refl _).alloc _) (TmB.mk (terms2 (heap_alloc_new _ _) (LC.out.up (QQ.out.alloc _)) (LB.out.up (QQ.out.alloc _)))) (fun h => absurd h (by decide))
    · refine manyT (i := 9) (oi := _) rfl (wantedT rfl) ?_
      obtain ⟨g, hg, tg⟩ := (show TmB [c, b] (a'.eval (.tmp 130)) wq from hpre 8 (by decide))
      refine wpCall (clT (f := 19) (args := #[.agg (ndc n).toArray, .slice (some ⟨g, 0, none⟩) 2 2]) rfl (by simp only [List.map_toArray, List.map_cons, List.map_nil, (hfr 127 (by decide)).trans e127_6, hg] <;> rfl) (fun args w => by kernel_rfl)) (fun v w' => Qt wq w' ∧ TmC (joinL n [c, b]) v w') ((join_any n [c, b] _ 2 wq (by show 2 ≤ 1000; decide) (by have := HLA.out; have := HLB.out; have := HLC.out; simp only [List.flatten_cons, List.flatten_nil, List.length_append, List.length_nil]; omega) tg).mono ?_) ?_
      · rintro e w' ⟨A', c', rfl, l, q2⟩
        exact ⟨_, rfl, q2, TmC.mk l.lt⟩
      · rintro v w' ⟨q2, hr⟩
        exact hK _ _ q2 hr (fun h => absurd h (by decide))
    · refine manyT (i := 10) (oi := _) rfl (wantedT rfl) ?_
      refine wpAl rfl [.slice none 0 0] (fun w => by go_simp) ?_
      intro g w' qa sa ba
      refine hK _ _ qa (TmA.mk (Nat.le_trans QQ.out.size sa) ba) (fun _ j hj u hr => ?_)
      simp only [List.mem_cons, List.not_mem_nil, or_false] at hj
      exact (show TmA w8.heap.size u wq by rcases hj with rfl | rfl <;> exact hr).ne sa
    · refine manyT (i := 11) (oi := _) rfl (wantedT rfl) ?_
      refine wpAl rfl [.slice none 0 0] (fun w => by go_simp) ?_
      intro g w' qa sa ba
      refine hK _ _ qa (TmA.mk (Nat.le_trans QQ.out.size sa) ba) (fun _ j hj u hr => ?_)
      simp only [List.mem_cons, List.not_mem_nil, or_false] at hj
      exact (show TmA w8.heap.size u wq by rcases hj with rfl | rfl <;> exact hr).ne sa
  intro listed hL hl0 a' wq hsz hdf hfr q hr hne
  have hl : ∀ l ∈ ([#[true, true, true, false, false, true, true, true, false, false, false, false, false, false], #[true, true, true, true, false, true, true, true, false, false, false, false, false, false], #[true, true, true, false, false, true, true, true, true, false, false, false, false, false], #[true, true, true, false, false, true, true, true, false, false, true, false, false, false], #[true, true, true, false, false, true, true, true, false, false, false, true, false, false], #[true, true, true, true, true, true, true, true, false, false, false, false, false, false], #[true, true, true, true, false, true, true, true, true, false, false, false, false, false], #[true, true, true, true, false, true, true, true, false, false, true, false, false, false], #[true, true, true, true, false, true, true, true, false, false, false, true, false, false], #[true, true, true, false, false, true, true, true, true, false, true, false, false, false], #[true, true, true, false, false, true, true, true, true, false, false, true, false, false], #[true, true, true, false, false, true, true, true, false, false, true, true, false, false], #[true, true, true, true, true, true, true, true, true, false, false, false, false, false], #[true, true, true, true, true, true, true, true, false, false, true, false, false, false], #[true, true, true, true, true, true, true, true, false, false, false, true, false, false], #[true, true, true, true, false, true, true, true, true, false, true, false, false, false], #[true, true, true, true, false, true, true, true, true, false, false, true, false, false], #[true, true, true, true, false, true, true, true, false, false, true, true, false, false], #[true, true, true, false, false, true, true, true, true, false, true, true, false, false], #[true, true, true, true, true, true, true, true, true, true, false, false, false, false], #[true, true, true, true, true, true, true, true, true, false, true, false, false, false], #[true, true, true, true, true, true, true, true, true, false, false, true, false, false], #[true, true, true, true, true, true, true, true, false, false, true, true, false, false], #[true, true, true, true, false, true, true, true, true, false, true, true, false, false], #[true, true, true, true, true, true, true, true, true, true, true, false, false, false], #[true, true, true, true, true, true, true, true, true, true, false, true, false, false], #[true, true, true, true, true, true, true, true, true, false, true, true, false, false], #[true, true, true, true, true, true, true, true, true, true, true, true, false, false]] : List (Array Bool)), (l.toList.filter (fun b => !b)).length - 2 = 0 → l = #[true, true, true, true, true, true, true, true, true, true, true, true, false, false] := by decide +kernel
  obtain rfl := hl listed hL hl0
  clear hL hl0 hl
  obtain ⟨g1, hg1, t1⟩ := (show TmB [c, a] (a'.eval (.tmp 125)) wq from hr 3 (by decide))
  obtain ⟨g2, hg2, t2⟩ := (show TmB [c, b] (a'.eval (.tmp 130)) wq from hr 8 (by decide))
  obtain ⟨Pr, cr, hvr, lr⟩ := (show TmC (joinL n [c, a]) (a'.eval (.tmp 126)) wq from hr 4 (by decide))
  obtain ⟨Ps, cs, hvs, ls⟩ := (show TmC (joinL n [c, b]) (a'.eval (.tmp 131)) wq from hr 9 (by decide))
  obtain ⟨gr, hbr, hpr, br⟩ := (show TmA w8.heap.size (a'.eval (.tmp 13)) wq from hr 10 (by decide))
  obtain ⟨gs, hbs, hps, bs⟩ := (show TmA w8.heap.size (a'.eval (.tmp 14)) wq from hr 11 (by decide))
  have hne2 : gr ≠ gs := fun e => hne 10 (by decide) 11 (by decide) (by decide) (show a'.eval (.tmp 13) = a'.eval (.tmp 14) by rw [hpr, hps, e])
  have hE : a' = ((((((F6.put (some 125) (.slice (some ⟨g1, 0, none⟩) 2 2)).put (some 126) (.agg #[.slice Pr (joinL n [c, a]).length cr])).put (some 130) (.slice (some ⟨g2, 0, none⟩) 2 2)).put (some 131) (.agg #[.slice Ps (joinL n [c, b]).length cs])).put (some 13) (.pointer (some ⟨gr, 0, none⟩))).put (some 14) (.pointer (some ⟨gs, 0, none⟩))) := by
    refine act_ext (by simpa [Act.put] using hsz) (by simpa [Act.put] using hdf) (fun s => ?_)
    by_cases s14 : s = 14
    · subst s14; rw [evS (by simp [Act.put, z6])]; exact hps
    rw [evO (fun e => s14 e.symm)]
    by_cases s13 : s = 13
    · subst s13; rw [evS (by simp [Act.put, z6])]; exact hpr
    rw [evO (fun e => s13 e.symm)]
    by_cases s131 : s = 131
    · subst s131; rw [evS (by simp [Act.put, z6])]; exact hvs
    rw [evO (fun e => s131 e.symm)]
    by_cases s130 : s = 130
    · subst s130; rw [evS (by simp [Act.put, z6])]; exact hg2
    rw [evO (fun e => s130 e.symm)]
    by_cases s126 : s = 126
    · subst s126; rw [evS (by simp [Act.put, z6])]; exact hvr
    rw [evO (fun e => s126 e.symm)]
    by_cases s125 : s = 125
    · subst s125; rw [evS (by simp [Act.put, z6])]; exact hg1
    rw [evO (fun e => s125 e.symm)]
    refine hfr s (fun i hi => ?_)
    simp only [List.mem_cons, List.not_mem_nil, or_false] at hi
    rcases hi with rfl | rfl | rfl | rfl | rfl | rfl
    · exact fun e => s125 e.symm
    · exact fun e => s126 e.symm
    · exact fun e => s130 e.symm
    · exact fun e => s131 e.symm
    · exact fun e => s13 e.symm
    · exact fun e => s14 e.symm
  have qb := QX.out.drew.trans q
  refine aloneT (i := 12) (oi := _) rfl (by kernel_rfl) (wantedT rfl) ?_
  refine wpStM rfl hpr (cells := [.slice Pr (joinL n [c, a]).length cr]) hvr (t := 24) (c := [.slice none 0 0]) br (by show 1 ≤ 1; decide) (by kernel_rfl) (by intro u hu; rw [List.mem_singleton.1 hu]; rfl) ?_
  intro w7b og7 hz7 hb7
  have q7 : Qt w8 w7b := og7.qt qb hbr
  have bs7 := bs.og og7 (fun e => hne2 e.symm)
  have lr7 := lr.og br og7 hz7
  have ls7 := ls.og br og7 hz7
  refine ⟨⟨(HB4.out.qt q7).range 0 [.slice P1 a.length c1] rfl, (HB5.out.qt q7).range 0 [.slice P2 b.length c2] rfl, (HB6.out.qt q7).range 0 [.slice P3 c.length c3] rfl, (HB7.out.qt q7).range 0 (ndc n) rfl⟩, ?_⟩
  refine aloneT (i := 13) (oi := _) rfl (by kernel_rfl) (wantedT rfl) ?_
  refine wpStM (a := a') rfl hps (cells := [.slice Ps (joinL n [c, b]).length cs]) hvs (t := 24) (c := [.slice none 0 0]) bs7 (by show 1 ≤ 1; decide) (by kernel_rfl) (by intro u hu; rw [List.mem_singleton.1 hu]; rfl) ?_
  intro w8b og8 hz8 hb8
  have q8 : Qt w8 w8b := og8.qt q7 hbs
  have HBr := Lib.hid (show Blk w8b gr 24 [.slice Pr (joinL n [c, a]).length cr] from (show Blk w7b gr 24 [.slice Pr (joinL n [c, a]).length cr] from hb7).og og8 hne2)
  have HBs := Lib.hid (show Blk w8b gs 24 [.slice Ps (joinL n [c, b]).length cs] from hb8)
  have Lr := Lib.hid (lr7.og bs7 og8 hz8)
  have Ls := Lib.hid (ls7.og bs7 og8 hz8)
  refine ⟨⟨(HB4.out.qt q8).range 0 [.slice P1 a.length c1] rfl, (HB5.out.qt q8).range 0 [.slice P2 b.length c2] rfl, (HB6.out.qt q8).range 0 [.slice P3 c.length c3] rfl, (HB7.out.qt q8).range 0 (ndc n) rfl⟩, ?_⟩
  refine wpAnyH_done (by kernel_rfl) ?_ _
  rw [hE, HF6.out, HF5.out, HF4.out, HF3.out, HF2.out, HF1.out, HA.out]
  simp only [Act.put, List.setIfInBounds_toArray, List.set_cons_succ, List.set_cons_zero]
  have QX := Lib.hid q8
  clear hE hsz hdf hfr hr hne q qb q7 q8 og7 og8 hz7 hz8 hb7 hb8 lr ls lr7 ls7 br bs bs7 t1 t2 hg1 hg2 hvr hvs hpr hps
  have HB4 := Lib.hid (HB4.out.qt QX.out); have HB5 := Lib.hid (HB5.out.qt QX.out); have HB6 := Lib.hid (HB6.out.qt QX.out); have HB7 := Lib.hid (HB7.out.qt QX.out); have HBp := Lib.hid (HBp.out.qt QX.out); have HBq := Lib.hid (HBq.out.qt QX.out)
  have Lp := Lib.hid (Lp.out.up QX.out); have Lq := Lib.hid (Lq.out.up QX.out)
  have QW := Lib.hid (QW.out.trans QX.out)
  have QX := Lib.hid (Qt.refl w8b)
  obtain ⟨t, u, x, et, eu, ex⟩ := HPN.out ha0 hb0 hc0
  have hsmx : sm = (X == 0) := by rw [HSMO.out, HX.out]; exact sameL_ord et eu
  have HOPQ := Lib.hid (fun (hx : X ≠ 0) (w' : World) (q : Qt w8b w') => show Calls Try.prog 14 #[.agg #[.slice Pp (joinL n [c, a, c]).length cp], .agg #[.slice Pq (joinL n [c, b, a]).length cq]] w' (fun e w'' => e = .returned (.int .i64 X) ∧ Qt w' w'') from by
    have e := (ord_join3 n HN.out et eu ex HWA.out HWB.out HWC.out (by rw [← HX.out]; exact hx)).trans HX.out.symm
    rw [← e]
    exact Order_any _ _ _ _ _ _ _ (by have := HLA.out; have := HLB.out; have := HLC.out; simp only [joinL, List.flatten_cons, List.flatten_nil, List.length_append, List.length_cons, List.length_nil]; omega) (by have := HLA.out; have := HLB.out; have := HLC.out; simp only [joinL, List.flatten_cons, List.flatten_nil, List.length_append, List.length_cons, List.length_nil]; omega) (Lp.out.up q) (Lq.out.up q) (fun _ h => h) (fun _ h => h))
  have HORS := Lib.hid (fun (w' : World) (q : Qt w8b w') => show Calls Try.prog 14 #[.agg #[.slice Pr (joinL n [c, a]).length cr], .agg #[.slice Ps (joinL n [c, b]).length cs]] w' (fun e w'' => e = .returned (.int .i64 X) ∧ Qt w' w'') from by
    have e := (ord_join2 n HN.out et eu ex HWA.out HWB.out HWC.out).trans HX.out.symm
    rw [← e]
    exact Order_any _ _ _ _ _ _ _ (by have := HLA.out; have := HLB.out; have := HLC.out; simp only [joinL, List.flatten_cons, List.flatten_nil, List.length_append, List.length_cons, List.length_nil]; omega) (by have := HLA.out; have := HLB.out; have := HLC.out; simp only [joinL, List.flatten_cons, List.flatten_nil, List.length_append, List.length_cons, List.length_nil]; omega) (Lr.out.up q) (Ls.out.up q) (fun _ h => h) (fun _ h => h))
  have HORP := Lib.hid (fun (w' : World) (q : Qt w8b w') => show Calls Try.prog 14 #[.agg #[.slice Pr (joinL n [c, a]).length cr], .agg #[.slice Pp (joinL n [c, a, c]).length cp]] w' (fun e w'' => e = .returned (.int .i64 (-1)) ∧ Qt w' w'') from by
    have e := ord_join23 n HN.out et eu ex HWA.out HWB.out HWC.out
    rw [← e]
    exact Order_any _ _ _ _ _ _ _ (by have := HLA.out; have := HLB.out; have := HLC.out; simp only [joinL, List.flatten_cons, List.flatten_nil, List.length_append, List.length_cons, List.length_nil]; omega) (by have := HLA.out; have := HLB.out; have := HLC.out; simp only [joinL, List.flatten_cons, List.flatten_nil, List.length_append, List.length_cons, List.length_nil]; omega) (Lr.out.up q) (Lp.out.up q) (fun _ h => h) (fun _ h => h))
  have HSM := Lib.hid (fun (w' : World) (q : Qt w8b w') => HSM.out w' (QW.out.trans q))
  have HO02 := Lib.hid (ord_join02 n HN.out et eu ex HWA.out HWB.out HWC.out)
  have HSX := Lib.hid hsmx
  clear et eu ex hsmx t u x
  go_step; go_step; go_step
  rename_i K14 hK14
  refine cutK (fun e a' w' => e = .normal ∧ ∃ v : Nat → Value, (v = fun i => a'.eval (.tmp i)) ∧ a' = (⟨#[.agg #[.slice P1 a.length c1], .agg #[.slice P2 b.length c2], .agg #[.slice P3 c.length c3], .agg (ndc n).toArray, .pointer (some ⟨w.heap.size, 0, none⟩), .pointer (some ⟨w.heap.size + 1, 0, none⟩), .pointer (some ⟨w.heap.size + 2, 0, none⟩), .pointer (some ⟨w.heap.size + 3, 0, none⟩), (v 8), .int .i64 X, .int .i64 Y, .pointer (some ⟨gp, 0, none⟩), .pointer (some ⟨gq, 0, none⟩), .pointer (some ⟨gr, 0, none⟩), .pointer (some ⟨gs, 0, none⟩), (v 15), (v 16), (v 17), (v 18), (v 19), (v 20), (v 21), (v 22), (v 23), (v 24), (v 25), (v 26), (v 27), (v 28), (v 29), (v 30), (v 31), (v 32), (v 33), (v 34), (v 35), (v 36), (v 37), (v 38), (v 39), (v 40), (v 41), (v 42), (v 43), (v 44), (v 45), (v 46), (v 47), (v 48), (v 49), (v 50), (v 51), (v 52), (v 53), (v 54), (v 55), (v 56), (v 57), (v 58), (v 59), (v 60), (v 61), (v 62), (v 63), (v 64), (v 65), (v 66), (v 67), (v 68), (v 69), (v 70), (v 71), (v 72), (v 73), (v 74), (v 75), (v 76), (v 77), (v 78), (v 79), (v 80), (v 81), (v 82), (v 83), (v 84), (v 85), (v 86), (v 87), (v 88), (v 89), (v 90), (v 91), (v 92), (v 93), (v 94), (v 95), (v 96), (v 97), (v 98), (v 99), (v 100), (v 101), (v 102), (v 103), (v 104), (v 105), (v 106), (v 107), (v 108), (v 109), (v 110), (v 111), (v 112), (v 113), (v 114), (v 115), (v 116), (v 117), (v 118), (v 119), (v 120), (v 121), (v 122), (v 123), (v 124), (v 125), (v 126), (v 127), (v 128), (v 129), (v 130), (v 131), (v 132), (v 133), (v 134), (v 135), (v 136), (v 137), (v 138), (v 139), (v 140), (v 141), (v 142), (v 143), (v 144), (v 145), (v 146), (v 147), (v 148), (v 149), (v 150), (v 151), (v 152), (v 153), (v 154), (v 155), undef, undef, undef, undef, undef, undef, undef, undef, undef, undef, undef], []⟩ : Act) ∧ Qt w8b w') (fun e a' w14 hrel => ?_) (fun R hR => ?_)
  rotate_left
  · have HR := Lib.hid hR
    clear hR hK14 K14
    have hxz := HXZ.out
    obtain ⟨hz, hx1, hx2⟩ := hxz
    clear hz
    rcases (show X = -1 ∨ X = 0 ∨ X = 1 from by omega) with rfl | rfl | rfl
    · obtain rfl : sm = false := HSX.out.trans (by decide)
      have HOPQ := Lib.hid (HOPQ.out (by decide))
      go_wp2_with (first
          | (refine armSkip rfl rfl rfl rfl ?_)
          | (refine armLdG 24 (.tmp 4) rfl (w.heap.size) rfl (HB4.out.qt QX.out) (.struct ts) HTS.out rfl (by kernel_rfl) (by first | exact wantedT rfl | exact (wantedB rfl rfl rfl).trans rfl) ?_)
          | (refine armLdG 24 (.tmp 5) rfl (w.heap.size + 1) rfl (HB5.out.qt QX.out) (.struct ts) HTS.out rfl (by kernel_rfl) (by first | exact wantedT rfl | exact (wantedB rfl rfl rfl).trans rfl) ?_)
          | (refine armLdG 24 (.tmp 11) rfl (gp) rfl (HBp.out.qt QX.out) (.struct ts) HTS.out rfl (by kernel_rfl) (by first | exact wantedT rfl | exact (wantedB rfl rfl rfl).trans rfl) ?_)
          | (refine armLdG 24 (.tmp 12) rfl (gq) rfl (HBq.out.qt QX.out) (.struct ts) HTS.out rfl (by kernel_rfl) (by first | exact wantedT rfl | exact (wantedB rfl rfl rfl).trans rfl) ?_)
          | (refine armLdG 24 (.tmp 13) rfl (gr) rfl (HBr.out.qt QX.out) (.struct ts) HTS.out rfl (by kernel_rfl) (by first | exact wantedT rfl | exact (wantedB rfl rfl rfl).trans rfl) ?_)
          | (refine armLdG 24 (.tmp 14) rfl (gs) rfl (HBs.out.qt QX.out) (.struct ts) HTS.out rfl (by kernel_rfl) (by first | exact wantedT rfl | exact (wantedB rfl rfl rfl).trans rfl) ?_))
      refine (HOPQ.out _ QX.out).mono ?_
      rintro e w2 ⟨rfl, q2⟩
      have QX := Lib.hid (QX.out.trans q2)
      clear q2
      go_wp2_with (first
          | (refine armSkip rfl rfl rfl rfl ?_)
          | (refine armLdG 24 (.tmp 4) rfl (w.heap.size) rfl (HB4.out.qt QX.out) (.struct ts) HTS.out rfl (by kernel_rfl) (by first | exact wantedT rfl | exact (wantedB rfl rfl rfl).trans rfl) ?_)
          | (refine armLdG 24 (.tmp 5) rfl (w.heap.size + 1) rfl (HB5.out.qt QX.out) (.struct ts) HTS.out rfl (by kernel_rfl) (by first | exact wantedT rfl | exact (wantedB rfl rfl rfl).trans rfl) ?_)
          | (refine armLdG 24 (.tmp 11) rfl (gp) rfl (HBp.out.qt QX.out) (.struct ts) HTS.out rfl (by kernel_rfl) (by first | exact wantedT rfl | exact (wantedB rfl rfl rfl).trans rfl) ?_)
          | (refine armLdG 24 (.tmp 12) rfl (gq) rfl (HBq.out.qt QX.out) (.struct ts) HTS.out rfl (by kernel_rfl) (by first | exact wantedT rfl | exact (wantedB rfl rfl rfl).trans rfl) ?_)
          | (refine armLdG 24 (.tmp 13) rfl (gr) rfl (HBr.out.qt QX.out) (.struct ts) HTS.out rfl (by kernel_rfl) (by first | exact wantedT rfl | exact (wantedB rfl rfl rfl).trans rfl) ?_)
          | (refine armLdG 24 (.tmp 14) rfl (gs) rfl (HBs.out.qt QX.out) (.struct ts) HTS.out rfl (by kernel_rfl) (by first | exact wantedT rfl | exact (wantedB rfl rfl rfl).trans rfl) ?_))
      refine (HORS.out _ QX.out).mono ?_
      rintro e w2 ⟨rfl, q2⟩
      have QX := Lib.hid (QX.out.trans q2)
      clear q2
      go_wp2_with (first
          | (refine armSkip rfl rfl rfl rfl ?_)
          | (refine armLdG 24 (.tmp 4) rfl (w.heap.size) rfl (HB4.out.qt QX.out) (.struct ts) HTS.out rfl (by kernel_rfl) (by first | exact wantedT rfl | exact (wantedB rfl rfl rfl).trans rfl) ?_)
          | (refine armLdG 24 (.tmp 5) rfl (w.heap.size + 1) rfl (HB5.out.qt QX.out) (.struct ts) HTS.out rfl (by kernel_rfl) (by first | exact wantedT rfl | exact (wantedB rfl rfl rfl).trans rfl) ?_)
          | (refine armLdG 24 (.tmp 11) rfl (gp) rfl (HBp.out.qt QX.out) (.struct ts) HTS.out rfl (by kernel_rfl) (by first | exact wantedT rfl | exact (wantedB rfl rfl rfl).trans rfl) ?_)
          | (refine armLdG 24 (.tmp 12) rfl (gq) rfl (HBq.out.qt QX.out) (.struct ts) HTS.out rfl (by kernel_rfl) (by first | exact wantedT rfl | exact (wantedB rfl rfl rfl).trans rfl) ?_)
          | (refine armLdG 24 (.tmp 13) rfl (gr) rfl (HBr.out.qt QX.out) (.struct ts) HTS.out rfl (by kernel_rfl) (by first | exact wantedT rfl | exact (wantedB rfl rfl rfl).trans rfl) ?_)
          | (refine armLdG 24 (.tmp 14) rfl (gs) rfl (HBs.out.qt QX.out) (.struct ts) HTS.out rfl (by kernel_rfl) (by first | exact wantedT rfl | exact (wantedB rfl rfl rfl).trans rfl) ?_))
      refine (HSM.out _ QX.out).mono ?_
      rintro e w2 ⟨rfl, q2⟩
      have QX := Lib.hid (QX.out.trans q2)
      clear q2
      go_wp2_with fail
      exact HR.out _ _ _ ⟨rfl, _, rfl, rfl, QX.out⟩
    · obtain rfl : sm = true := HSX.out.trans (by decide)
      go_wp2_with (first
          | (refine armSkip rfl rfl rfl rfl ?_)
          | (refine armLdG 24 (.tmp 4) rfl (w.heap.size) rfl (HB4.out.qt QX.out) (.struct ts) HTS.out rfl (by kernel_rfl) (by first | exact wantedT rfl | exact (wantedB rfl rfl rfl).trans rfl) ?_)
          | (refine armLdG 24 (.tmp 5) rfl (w.heap.size + 1) rfl (HB5.out.qt QX.out) (.struct ts) HTS.out rfl (by kernel_rfl) (by first | exact wantedT rfl | exact (wantedB rfl rfl rfl).trans rfl) ?_)
          | (refine armLdG 24 (.tmp 11) rfl (gp) rfl (HBp.out.qt QX.out) (.struct ts) HTS.out rfl (by kernel_rfl) (by first | exact wantedT rfl | exact (wantedB rfl rfl rfl).trans rfl) ?_)
          | (refine armLdG 24 (.tmp 12) rfl (gq) rfl (HBq.out.qt QX.out) (.struct ts) HTS.out rfl (by kernel_rfl) (by first | exact wantedT rfl | exact (wantedB rfl rfl rfl).trans rfl) ?_)
          | (refine armLdG 24 (.tmp 13) rfl (gr) rfl (HBr.out.qt QX.out) (.struct ts) HTS.out rfl (by kernel_rfl) (by first | exact wantedT rfl | exact (wantedB rfl rfl rfl).trans rfl) ?_)
          | (refine armLdG 24 (.tmp 14) rfl (gs) rfl (HBs.out.qt QX.out) (.struct ts) HTS.out rfl (by kernel_rfl) (by first | exact wantedT rfl | exact (wantedB rfl rfl rfl).trans rfl) ?_))
      refine (HORS.out _ QX.out).mono ?_
      rintro e w2 ⟨rfl, q2⟩
      have QX := Lib.hid (QX.out.trans q2)
      clear q2
      go_wp2_with (first
          | (refine armSkip rfl rfl rfl rfl ?_)
          | (refine armLdG 24 (.tmp 4) rfl (w.heap.size) rfl (HB4.out.qt QX.out) (.struct ts) HTS.out rfl (by kernel_rfl) (by first | exact wantedT rfl | exact (wantedB rfl rfl rfl).trans rfl) ?_)
          | (refine armLdG 24 (.tmp 5) rfl (w.heap.size + 1) rfl (HB5.out.qt QX.out) (.struct ts) HTS.out rfl (by kernel_rfl) (by first | exact wantedT rfl | exact (wantedB rfl rfl rfl).trans rfl) ?_)
          | (refine armLdG 24 (.tmp 11) rfl (gp) rfl (HBp.out.qt QX.out) (.struct ts) HTS.out rfl (by kernel_rfl) (by first | exact wantedT rfl | exact (wantedB rfl rfl rfl).trans rfl) ?_)
          | (refine armLdG 24 (.tmp 12) rfl (gq) rfl (HBq.out.qt QX.out) (.struct ts) HTS.out rfl (by kernel_rfl) (by first | exact wantedT rfl | exact (wantedB rfl rfl rfl).trans rfl) ?_)
          | (refine armLdG 24 (.tmp 13) rfl (gr) rfl (HBr.out.qt QX.out) (.struct ts) HTS.out rfl (by kernel_rfl) (by first | exact wantedT rfl | exact (wantedB rfl rfl rfl).trans rfl) ?_)
          | (refine armLdG 24 (.tmp 14) rfl (gs) rfl (HBs.out.qt QX.out) (.struct ts) HTS.out rfl (by kernel_rfl) (by first | exact wantedT rfl | exact (wantedB rfl rfl rfl).trans rfl) ?_))
      refine (HSM.out _ QX.out).mono ?_
      rintro e w2 ⟨rfl, q2⟩
      have QX := Lib.hid (QX.out.trans q2)
      clear q2
      go_wp2_with fail
      exact HR.out _ _ _ ⟨rfl, _, rfl, rfl, QX.out⟩
    · obtain rfl : sm = false := HSX.out.trans (by decide)
      have HOPQ := Lib.hid (HOPQ.out (by decide))
      go_wp2_with (first
          | (refine armSkip rfl rfl rfl rfl ?_)
          | (refine armLdG 24 (.tmp 4) rfl (w.heap.size) rfl (HB4.out.qt QX.out) (.struct ts) HTS.out rfl (by kernel_rfl) (by first | exact wantedT rfl | exact (wantedB rfl rfl rfl).trans rfl) ?_)
          | (refine armLdG 24 (.tmp 5) rfl (w.heap.size + 1) rfl (HB5.out.qt QX.out) (.struct ts) HTS.out rfl (by kernel_rfl) (by first | exact wantedT rfl | exact (wantedB rfl rfl rfl).trans rfl) ?_)
          | (refine armLdG 24 (.tmp 11) rfl (gp) rfl (HBp.out.qt QX.out) (.struct ts) HTS.out rfl (by kernel_rfl) (by first | exact wantedT rfl | exact (wantedB rfl rfl rfl).trans rfl) ?_)
          | (refine armLdG 24 (.tmp 12) rfl (gq) rfl (HBq.out.qt QX.out) (.struct ts) HTS.out rfl (by kernel_rfl) (by first | exact wantedT rfl | exact (wantedB rfl rfl rfl).trans rfl) ?_)
          | (refine armLdG 24 (.tmp 13) rfl (gr) rfl (HBr.out.qt QX.out) (.struct ts) HTS.out rfl (by kernel_rfl) (by first | exact wantedT rfl | exact (wantedB rfl rfl rfl).trans rfl) ?_)
          | (refine armLdG 24 (.tmp 14) rfl (gs) rfl (HBs.out.qt QX.out) (.struct ts) HTS.out rfl (by kernel_rfl) (by first | exact wantedT rfl | exact (wantedB rfl rfl rfl).trans rfl) ?_))
      refine (HOPQ.out _ QX.out).mono ?_
      rintro e w2 ⟨rfl, q2⟩
      have QX := Lib.hid (QX.out.trans q2)
      clear q2
      go_wp2_with (first
          | (refine armSkip rfl rfl rfl rfl ?_)
          | (refine armLdG 24 (.tmp 4) rfl (w.heap.size) rfl (HB4.out.qt QX.out) (.struct ts) HTS.out rfl (by kernel_rfl) (by first | exact wantedT rfl | exact (wantedB rfl rfl rfl).trans rfl) ?_)
          | (refine armLdG 24 (.tmp 5) rfl (w.heap.size + 1) rfl (HB5.out.qt QX.out) (.struct ts) HTS.out rfl (by kernel_rfl) (by first | exact wantedT rfl | exact (wantedB rfl rfl rfl).trans rfl) ?_)
          | (refine armLdG 24 (.tmp 11) rfl (gp) rfl (HBp.out.qt QX.out) (.struct ts) HTS.out rfl (by kernel_rfl) (by first | exact wantedT rfl | exact (wantedB rfl rfl rfl).trans rfl) ?_)
          | (refine armLdG 24 (.tmp 12) rfl (gq) rfl (HBq.out.qt QX.out) (.struct ts) HTS.out rfl (by kernel_rfl) (by first | exact wantedT rfl | exact (wantedB rfl rfl rfl).trans rfl) ?_)
          | (refine armLdG 24 (.tmp 13) rfl (gr) rfl (HBr.out.qt QX.out) (.struct ts) HTS.out rfl (by kernel_rfl) (by first | exact wantedT rfl | exact (wantedB rfl rfl rfl).trans rfl) ?_)
          | (refine armLdG 24 (.tmp 14) rfl (gs) rfl (HBs.out.qt QX.out) (.struct ts) HTS.out rfl (by kernel_rfl) (by first | exact wantedT rfl | exact (wantedB rfl rfl rfl).trans rfl) ?_))
      refine (HORS.out _ QX.out).mono ?_
      rintro e w2 ⟨rfl, q2⟩
      have QX := Lib.hid (QX.out.trans q2)
      clear q2
      go_wp2_with (first
          | (refine armSkip rfl rfl rfl rfl ?_)
          | (refine armLdG 24 (.tmp 4) rfl (w.heap.size) rfl (HB4.out.qt QX.out) (.struct ts) HTS.out rfl (by kernel_rfl) (by first | exact wantedT rfl | exact (wantedB rfl rfl rfl).trans rfl) ?_)
          | (refine armLdG 24 (.tmp 5) rfl (w.heap.size + 1) rfl (HB5.out.qt QX.out) (.struct ts) HTS.out rfl (by kernel_rfl) (by first | exact wantedT rfl | exact (wantedB rfl rfl rfl).trans rfl) ?_)
          | (refine armLdG 24 (.tmp 11) rfl (gp) rfl (HBp.out.qt QX.out) (.struct ts) HTS.out rfl (by kernel_rfl) (by first | exact wantedT rfl | exact (wantedB rfl rfl rfl).trans rfl) ?_)
          | (refine armLdG 24 (.tmp 12) rfl (gq) rfl (HBq.out.qt QX.out) (.struct ts) HTS.out rfl (by kernel_rfl) (by first | exact wantedT rfl | exact (wantedB rfl rfl rfl).trans rfl) ?_)
          | (refine armLdG 24 (.tmp 13) rfl (gr) rfl (HBr.out.qt QX.out) (.struct ts) HTS.out rfl (by kernel_rfl) (by first | exact wantedT rfl | exact (wantedB rfl rfl rfl).trans rfl) ?_)
          | (refine armLdG 24 (.tmp 14) rfl (gs) rfl (HBs.out.qt QX.out) (.struct ts) HTS.out rfl (by kernel_rfl) (by first | exact wantedT rfl | exact (wantedB rfl rfl rfl).trans rfl) ?_))
      refine (HSM.out _ QX.out).mono ?_
      rintro e w2 ⟨rfl, q2⟩
      have QX := Lib.hid (QX.out.trans q2)
      clear q2
      go_wp2_with fail
      exact HR.out _ _ _ ⟨rfl, _, rfl, rfl, QX.out⟩
  obtain ⟨rfl, v, hv, rfl, qk⟩ := hrel
  clear hv
  have QX := Lib.hid qk
  clear qk
  go_wp2_with fail
  refine wp_region_held (S := (fun u => u.rangeAt gr 0 [.slice Pr (joinL n [c, a]).length cr] ∧ u.rangeAt gp 0 [.slice Pp (joinL n [c, a, c]).length cp] ∧ u.rangeAt gs 0 [.slice Ps (joinL n [c, b]).length cs] ∧ u.rangeAt (w.heap.size + 3) 0 (ndc n))) (by kernel_rfl) ?_
  change wpAnyH _ _ _ _ _ _ _ _ (World.drew _)
  refine genT fun F0 hA => ?_
  have z0 : F0.tmps.size = 167 := by rw [hA]; rfl
  have e7_0 : F0.eval (.tmp 7) = .pointer (some ⟨w.heap.size + 3, 0, none⟩) := by rw [hA]; rfl
  have e11_0 : F0.eval (.tmp 11) = .pointer (some ⟨gp, 0, none⟩) := by rw [hA]; rfl
  have e13_0 : F0.eval (.tmp 13) = .pointer (some ⟨gr, 0, none⟩) := by rw [hA]; rfl
  have e14_0 : F0.eval (.tmp 14) = .pointer (some ⟨gs, 0, none⟩) := by rw [hA]; rfl
  have HA := Lib.hid hA
  clear hA
  have HS := Lib.hid (show World.rangeAt (World.drew _) _ _ _ ∧ World.rangeAt (World.drew _) _ _ _ ∧ World.rangeAt (World.drew _) _ _ _ ∧ World.rangeAt (World.drew _) _ _ _ from ⟨(show Blk (World.drew _) _ _ _ from (HBr.out.qt QX.out.drew)).range 0 [.slice Pr (joinL n [c, a]).length cr] rfl, (show Blk (World.drew _) _ _ _ from (HBp.out.qt QX.out.drew)).range 0 [.slice Pp (joinL n [c, a, c]).length cp] rfl, (show Blk (World.drew _) _ _ _ from (HBs.out.qt QX.out.drew)).range 0 [.slice Ps (joinL n [c, b]).length cs] rfl, (show Blk (World.drew _) _ _ _ from (HB7.out.qt QX.out.drew)).range 0 (ndc n) rfl⟩)
  refine tkT (i := 0) (oi := _) (v := .agg #[.slice Pr (joinL n [c, a]).length cr]) rfl (by kernel_rfl) (by kernel_rfl) (by kernel_rfl) (fun _ _ _ h => h) HS.out (wantedT rfl) (fun w hs => lrT rfl e13_0 hs.1 (d := .struct ts) HTS.out rfl (by kernel_rfl)) ?_
  intro F1 hF
  replace hF : F1 = F0.put (some 156) (.agg #[.slice Pr (joinL n [c, a]).length cr]) := hF
  have z1 : F1.tmps.size = 167 := by rw [hF]; simpa [Act.put] using z0
  have e7_1 := (show F1.eval (.tmp 7) = F0.eval (.tmp 7) by rw [hF]; exact evO (by decide)).trans e7_0
  have e11_1 := (show F1.eval (.tmp 11) = F0.eval (.tmp 11) by rw [hF]; exact evO (by decide)).trans e11_0
  have e14_1 := (show F1.eval (.tmp 14) = F0.eval (.tmp 14) by rw [hF]; exact evO (by decide)).trans e14_0
  have e156_1 : F1.eval (.tmp 156) = .agg #[.slice Pr (joinL n [c, a]).length cr] := by rw [hF]; exact evS (by rw [z0]; decide)
  have HF1 := Lib.hid hF
  clear hF e7_0 e11_0 e13_0 e14_0
  refine tkT (i := 1) (oi := _) (v := .agg #[.slice Pp (joinL n [c, a, c]).length cp]) rfl (by kernel_rfl) (by kernel_rfl) (by kernel_rfl) (fun _ _ _ h => h) HS.out (wantedT rfl) (fun w hs => lrT rfl e11_1 hs.2.1 (d := .struct ts) HTS.out rfl (by kernel_rfl)) ?_
  intro F2 hF
  replace hF : F2 = F1.put (some 157) (.agg #[.slice Pp (joinL n [c, a, c]).length cp]) := hF
  have z2 : F2.tmps.size = 167 := by rw [hF]; simpa [Act.put] using z1
  have e7_2 := (show F2.eval (.tmp 7) = F1.eval (.tmp 7) by rw [hF]; exact evO (by decide)).trans e7_1
  have e14_2 := (show F2.eval (.tmp 14) = F1.eval (.tmp 14) by rw [hF]; exact evO (by decide)).trans e14_1
  have e156_2 := (show F2.eval (.tmp 156) = F1.eval (.tmp 156) by rw [hF]; exact evO (by decide)).trans e156_1
  have e157_2 : F2.eval (.tmp 157) = .agg #[.slice Pp (joinL n [c, a, c]).length cp] := by rw [hF]; exact evS (by rw [z1]; decide)
  have HF2 := Lib.hid hF
  clear hF e7_1 e11_1 e14_1 e156_1
  refine aloneT (i := 2) (oi := _) rfl (by kernel_rfl) (wantedT rfl) ?_
  refine wpCall (clT (f := 14) (args := #[.agg #[.slice Pr (joinL n [c, a]).length cr], .agg #[.slice Pp (joinL n [c, a, c]).length cp]]) rfl (by simp only [List.map_toArray, List.map_cons, List.map_nil, e156_2, e157_2] <;> rfl) (fun args w => by kernel_rfl)) (fun v w' => v = .int .i64 (-1) ∧ Qt w14.drew w') ((HORP.out _ QX.out.drew).mono (by rintro e w' ⟨rfl, q⟩; exact ⟨_, rfl, rfl, q⟩)) ?_
  rintro v w15 ⟨rfl, qw15⟩
  refine ⟨And.intro (rangeQt HS.out.1 qw15) (And.intro (rangeQt HS.out.2.1 qw15) (And.intro (rangeQt HS.out.2.2.1 qw15) (rangeQt HS.out.2.2.2 qw15))), genT fun F3 hF => ?_⟩
  have HS := Lib.hid (And.intro (rangeQt HS.out.1 qw15) (And.intro (rangeQt HS.out.2.1 qw15) (And.intro (rangeQt HS.out.2.2.1 qw15) (rangeQt HS.out.2.2.2 qw15))))
  replace hF : F3 = F2.put (some 158) (.int .i64 (-1)) := hF
  have z3 : F3.tmps.size = 167 := by rw [hF]; simpa [Act.put] using z2
  have e7_3 := (show F3.eval (.tmp 7) = F2.eval (.tmp 7) by rw [hF]; exact evO (by decide)).trans e7_2
  have e14_3 := (show F3.eval (.tmp 14) = F2.eval (.tmp 14) by rw [hF]; exact evO (by decide)).trans e14_2
  have e158_3 : F3.eval (.tmp 158) = .int .i64 (-1) := by rw [hF]; exact evS (by rw [z2]; decide)
  have HF3 := Lib.hid hF
  clear hF e7_2 e14_2 e156_2 e157_2
  refine tkT (i := 3) (oi := _) (v := .bool true) rfl (by kernel_rfl) (by kernel_rfl) (by kernel_rfl) (fun _ _ _ h => h) HS.out (wantedT rfl) (fun w hs => boT rfl e158_3 rfl (by go_simp) (by go_simp)) ?_
  intro F4 hF
  replace hF : F4 = F3.put (some 159) (.bool true) := hF
  have z4 : F4.tmps.size = 167 := by rw [hF]; simpa [Act.put] using z3
  have e7_4 := (show F4.eval (.tmp 7) = F3.eval (.tmp 7) by rw [hF]; exact evO (by decide)).trans e7_3
  have e14_4 := (show F4.eval (.tmp 14) = F3.eval (.tmp 14) by rw [hF]; exact evO (by decide)).trans e14_3
  have e159_4 : F4.eval (.tmp 159) = .bool true := by rw [hF]; exact evS (by rw [z3]; decide)
  have HF4 := Lib.hid hF
  clear hF e7_3 e14_3 e158_3
  refine tkT (i := 4) (oi := _) (v := .bool true) rfl (by kernel_rfl) (by kernel_rfl) (by kernel_rfl) (fun _ _ _ h => h) HS.out (wantedT rfl) (fun w _ => mvT rfl e159_4 w) ?_
  intro F5 hF
  replace hF : F5 = F4.put (some 160) (.bool true) := hF
  have z5 : F5.tmps.size = 167 := by rw [hF]; simpa [Act.put] using z4
  have e7_5 := (show F5.eval (.tmp 7) = F4.eval (.tmp 7) by rw [hF]; exact evO (by decide)).trans e7_4
  have e14_5 := (show F5.eval (.tmp 14) = F4.eval (.tmp 14) by rw [hF]; exact evO (by decide)).trans e14_4
  have e160_5 : F5.eval (.tmp 160) = .bool true := by rw [hF]; exact evS (by rw [z4]; decide)
  have HF5 := Lib.hid hF
  clear hF e7_4 e14_4 e159_4
  refine tkT (i := 5) (oi := _) (v := .agg (ndc n).toArray) rfl (by kernel_rfl) (by kernel_rfl) (by kernel_rfl) (fun _ _ _ h => h) HS.out (by rw [wantedG (d := 160) rfl rfl e160_5 (by rw [z5]; decide)]; rfl) (fun w hs => lrT rfl e7_5 hs.2.2.2 (d := .struct ns) HNS.out rfl (by kernel_rfl)) ?_
  intro F6 hF
  replace hF : F6 = F5.put (some 161) (.agg (ndc n).toArray) := hF
  have z6 : F6.tmps.size = 167 := by rw [hF]; simpa [Act.put] using z5
  have e14_6 := (show F6.eval (.tmp 14) = F5.eval (.tmp 14) by rw [hF]; exact evO (by decide)).trans e14_5
  have e160_6 := (show F6.eval (.tmp 160) = F5.eval (.tmp 160) by rw [hF]; exact evO (by decide)).trans e160_5
  have e161_6 : F6.eval (.tmp 161) = .agg (ndc n).toArray := by rw [hF]; exact evS (by rw [z5]; decide)
  have HF6 := Lib.hid hF
  clear hF e7_5 e14_5 e160_5
  refine tkT (i := 7) (oi := _) (v := .agg #[.slice Ps (joinL n [c, b]).length cs]) rfl (by kernel_rfl) (by kernel_rfl) (by kernel_rfl) (fun _ _ _ h => h) HS.out (by rw [wantedG (d := 160) rfl rfl e160_6 (by rw [z6]; decide)]; rfl) (fun w hs => lrT rfl e14_6 hs.2.2.1 (d := .struct ts) HTS.out rfl (by kernel_rfl)) ?_
  intro F7 hF
  replace hF : F7 = F6.put (some 163) (.agg #[.slice Ps (joinL n [c, b]).length cs]) := hF
  have z7 : F7.tmps.size = 167 := by rw [hF]; simpa [Act.put] using z6
  have e160_7 := (show F7.eval (.tmp 160) = F6.eval (.tmp 160) by rw [hF]; exact evO (by decide)).trans e160_6
  have e161_7 := (show F7.eval (.tmp 161) = F6.eval (.tmp 161) by rw [hF]; exact evO (by decide)).trans e161_6
  have e163_7 : F7.eval (.tmp 163) = .agg #[.slice Ps (joinL n [c, b]).length cs] := by rw [hF]; exact evS (by rw [z6]; decide)
  have HF7 := Lib.hid hF
  clear hF e14_6 e160_6 e161_6
  refine aloneT (i := 6) (oi := _) rfl (by kernel_rfl) (by rw [wantedG (d := 160) rfl rfl e160_7 (by rw [z7]; decide)]; rfl) ?_
  refine wpCall (clT (f := 19) (args := #[.agg (ndc n).toArray, .slice none 0 0]) rfl (by simp only [List.map_toArray, List.map_cons, List.map_nil, e161_7] <;> rfl) (fun args w => by kernel_rfl)) (fun v w' => Qt w15 w' ∧ ∃ A6 c6, v = .agg #[.slice A6 (joinL n []).length c6] ∧ Lies w' (fun k => k < w'.heap.size) (.slice A6 (joinL n []).length c6) (joinL n [])) ((join_any n [] none 0 w15 (by decide) (by decide) terms0).mono (by rintro e w' ⟨A6, c6, rfl, l, q⟩; exact ⟨_, rfl, q, A6, c6, rfl, l.lt⟩)) ?_
  rintro v w16 ⟨qw16, A6, c6, rfl, l6⟩
  refine ⟨And.intro (rangeQt HS.out.1 qw16) (And.intro (rangeQt HS.out.2.1 qw16) (And.intro (rangeQt HS.out.2.2.1 qw16) (rangeQt HS.out.2.2.2 qw16))), genT fun F8 hF => ?_⟩
  have HS := Lib.hid (And.intro (rangeQt HS.out.1 qw16) (And.intro (rangeQt HS.out.2.1 qw16) (And.intro (rangeQt HS.out.2.2.1 qw16) (rangeQt HS.out.2.2.2 qw16))))
  replace hF : F8 = F7.put (some 162) (.agg #[.slice A6 (joinL n []).length c6]) := hF
  have z8 : F8.tmps.size = 167 := by rw [hF]; simpa [Act.put] using z7
  have e160_8 := (show F8.eval (.tmp 160) = F7.eval (.tmp 160) by rw [hF]; exact evO (by decide)).trans e160_7
  have e162_8 : F8.eval (.tmp 162) = .agg #[.slice A6 (joinL n []).length c6] := by rw [hF]; exact evS (by rw [z7]; decide)
  have e163_8 := (show F8.eval (.tmp 163) = F7.eval (.tmp 163) by rw [hF]; exact evO (by decide)).trans e163_7
  have HF8 := Lib.hid hF
  clear hF e160_7 e161_7 e163_7
  refine aloneT (i := 8) (oi := _) rfl (by kernel_rfl) (by rw [wantedG (d := 160) rfl rfl e160_8 (by rw [z8]; decide)]; rfl) ?_
  have hjs : Calls Try.prog 14 #[.agg #[.slice A6 (joinL n []).length c6], .agg #[.slice Ps (joinL n [c, b]).length cs]] w16 (fun e w'' => e = .returned (.int .i64 (-1)) ∧ Qt w16 w'') := by
    have e := HO02.out
    rw [← e]
    exact Order_any _ _ _ _ _ _ w16 (by have := HLA.out; have := HLB.out; have := HLC.out; simp only [joinL, List.flatten_cons, List.flatten_nil, List.length_append, List.length_cons, List.length_nil]; omega) (by have := HLA.out; have := HLB.out; have := HLC.out; simp only [joinL, List.flatten_cons, List.flatten_nil, List.length_append, List.length_cons, List.length_nil]; omega) l6 (Ls.out.up ((QX.out.drew.trans qw15).trans qw16)) (fun _ h => h) (fun _ h => h)
  refine wpCall (clT (f := 14) (args := #[.agg #[.slice A6 (joinL n []).length c6], .agg #[.slice Ps (joinL n [c, b]).length cs]]) rfl (by simp only [List.map_toArray, List.map_cons, List.map_nil, e162_8, e163_8] <;> rfl) (fun args w => by kernel_rfl)) (fun v w' => v = .int .i64 (-1) ∧ Qt w16 w') ((hjs).mono (by rintro e w' ⟨rfl, q⟩; exact ⟨_, rfl, rfl, q⟩)) ?_
  rintro v w17 ⟨rfl, qw17⟩
  refine ⟨And.intro (rangeQt HS.out.1 qw17) (And.intro (rangeQt HS.out.2.1 qw17) (And.intro (rangeQt HS.out.2.2.1 qw17) (rangeQt HS.out.2.2.2 qw17))), genT fun F9 hF => ?_⟩
  have HS := Lib.hid (And.intro (rangeQt HS.out.1 qw17) (And.intro (rangeQt HS.out.2.1 qw17) (And.intro (rangeQt HS.out.2.2.1 qw17) (rangeQt HS.out.2.2.2 qw17))))
  replace hF : F9 = F8.put (some 164) (.int .i64 (-1)) := hF
  have z9 : F9.tmps.size = 167 := by rw [hF]; simpa [Act.put] using z8
  have e160_9 := (show F9.eval (.tmp 160) = F8.eval (.tmp 160) by rw [hF]; exact evO (by decide)).trans e160_8
  have e164_9 : F9.eval (.tmp 164) = .int .i64 (-1) := by rw [hF]; exact evS (by rw [z8]; decide)
  have HF9 := Lib.hid hF
  clear hF e160_8 e162_8 e163_8
  refine tkT (i := 9) (oi := _) (v := .bool true) rfl (by kernel_rfl) (by kernel_rfl) (by kernel_rfl) (fun _ _ _ h => h) HS.out (by rw [wantedG (d := 160) rfl rfl e160_9 (by rw [z9]; decide)]; rfl) (fun w hs => boT rfl e164_9 rfl (by go_simp) (by go_simp)) ?_
  intro F10 hF
  replace hF : F10 = F9.put (some 165) (.bool true) := hF
  have z10 : F10.tmps.size = 167 := by rw [hF]; simpa [Act.put] using z9
  have e160_10 := (show F10.eval (.tmp 160) = F9.eval (.tmp 160) by rw [hF]; exact evO (by decide)).trans e160_9
  have e165_10 : F10.eval (.tmp 165) = .bool true := by rw [hF]; exact evS (by rw [z9]; decide)
  have HF10 := Lib.hid hF
  clear hF e160_9 e164_9
  refine tkT (i := 10) (oi := _) (v := .bool true) rfl (by kernel_rfl) (by kernel_rfl) (by kernel_rfl) (fun _ _ _ h => h) HS.out (wantedT rfl) (fun w hs => pkT (vy := .bool false) rfl e160_10 e165_10 rfl w) ?_
  intro F11 hF
  replace hF : F11 = F10.put (some 166) (.bool true) := hF
  have z11 : F11.tmps.size = 167 := by rw [hF]; simpa [Act.put] using z10
  have e166_11 : F11.eval (.tmp 166) = .bool true := by rw [hF]; exact evS (by rw [z10]; decide)
  have HF11 := Lib.hid hF
  clear hF e160_10 e165_10
  refine tkT (i := 11) (oi := _) (v := .bool true) rfl (by kernel_rfl) (by kernel_rfl) (by kernel_rfl) (fun _ _ _ h => h) HS.out (wantedT rfl) (fun w _ => asT rfl e166_11 w) ?_
  intro F12 hF
  replace hF : F12 = F11.put (some 8) (.bool true) := hF
  have z12 : F12.tmps.size = 167 := by rw [hF]; simpa [Act.put] using z11
  have HF12 := Lib.hid hF
  clear hF e166_11
  refine wpAnyH_done (by kernel_rfl) ?_ _
  rw [HF12.out, HF11.out, HF10.out, HF9.out, HF8.out, HF7.out, HF6.out, HF5.out, HF4.out, HF3.out, HF2.out, HF1.out, HA.out]
  simp only [Act.put, List.setIfInBounds_toArray, List.set_cons_succ, List.set_cons_zero]
  clear HF12 HF11 HF10 HF9 HF8 HF7 HF6 HF5 HF4 HF3 HF2 HF1 HA z12 z11 z10 z9 z8 z7 z6 z5 z4 z3 z2 z1 z0 
  go_wp2_with fail
  go_ret
  exact ⟨rfl, Q0.out.trans (QW.out.trans (((QX.out.drew.trans qw15).trans qw16).trans qw17))⟩
end Go.Proofs.Ytipgpnkdgofdeaa.Tm
