import Derived.Test.YtipgpnkdgofdeaaJB
import Derived.Laws.StructEq
/-! How many nodes; whether two terms are the same nodes: printed by genq.py. -/
namespace Go.Proofs.Ytipgpnkdgofdeaa.Tm
open Go.RowKit
set_option linter.unusedVariables false
set_option linter.unusedSimpArgs false

theorem Lies.nth {w : World} {ok : Nat → Prop} {A : Option Addr} {c m : Nat} {l : List Nd} (h : Lies w ok (.slice A m c) l) {j : Nat} {x : Nd} (hx : l[j]? = some x) : ∃ b off, A = some ⟨b, off, none⟩ ∧ w.rangeAt b (off + j * 5) (ndc x) := by
  obtain ⟨A', c', e, _, h⟩ := h
  cases e
  obtain ⟨b, off, rfl, _, hc⟩ := h (fun e => by rw [e] at hx; cases hx)
  exact ⟨b, off, rfl, fun i u hu => by rw [Nat.add_assoc]; exact hc _ _ (ndcs_get l j x hx i u hu)⟩
/-- No text is greater than what came in may be. -/
def SzL (l : List Nd) : Prop := ∀ n ∈ l, n.f3.size ≤ 140737488351232
set_option maxRecDepth 100000 in
set_option maxHeartbeats 1000000 in
theorem termOf_any (l : List Nd) (v : Value) (lb : Nat → Prop) (most : Int) (w : World) (hm0 : 0 ≤ most) (hm1 : most ≤ 1000) (hll : l.length ≤ 9000000000000000) (hs : SzL l) (h : Lies w lb v l) :
    Calls Try.prog 8 #[.agg #[v], .int .i64 most] w fun e w' => ∃ r : Int, e = .returned (.int .i64 r) ∧ 0 ≤ r ∧ r ≤ 9000000000000 ∧ (r ≤ most → (l.length : Int) ≤ r) ∧ Qt w w' := by
  obtain ⟨A, c, rfl⟩ := h.form
  have q1 : Qt w (w.alloc (.cells #[.slice A l.length c] 24)) := (Qt.refl w).alloc _
  have c0 : (w.alloc (.cells #[.slice A l.length c] 24)).cell? ⟨w.heap.size, 0, none⟩ = some (.slice A l.length c) := by simp [go_sem]
  have HL := Lib.hid (h.qt q1)
  have HQ := Lib.hid q1
  have HSZ := Lib.hid hs
  clear h q1 hs
  go_enter Try.func8, Try.ntmps8
  go_wp2
  go_loop [6, 5] (fun i n => ∃ (j : Nat) (r : Int), j ≤ l.length ∧ i = .int .i64 j ∧ n = .int .i64 r ∧ (j : Int) ≤ r ∧ r ≤ 9000000000000) (fun i _ => l.length - (intOf i).toNat)
  case atStart => exact ⟨0, 0, by omega, rfl, rfl, by omega, by omega⟩
  case round =>
    obtain ⟨j, r, hj, rfl, rfl, hr, hr2⟩ := hrel
    by_cases hlt : j < l.length
    · by_cases hrm : r ≤ most
      · obtain ⟨x, hx⟩ : ∃ x, l[j]? = some x := ⟨_, List.getElem?_eq_getElem hlt⟩
        obtain ⟨b, off, rfl, hrg⟩ := HL.out.nth hx
        have c3 := hrg 3 _ rfl
        have hsz := HSZ.out x (List.mem_of_getElem? hx)
        have hjl : ¬ l.length ≤ j := by omega
        have hq0 : 0 ≤ ((x.f3.size : Int)).tdiv 16 ∧ ((x.f3.size : Int)).tdiv 16 ≤ 8796093022208 := by
          rw [Int.tdiv_eq_ediv_of_nonneg (by omega)]; omega
        clear hx hrg
        go_wp2
        exact ⟨⟨j + 1, r + 1 + (x.f3.size : Int) / 16, by omega, by go_num, rfl, by omega, by omega⟩, by simp [intOf]; omega⟩
      · go_wp2
        go_ret
        exact ⟨r, rfl, by omega, by omega, fun h => by omega, HQ.out⟩
    · obtain rfl : j = l.length := by omega
      go_wp2
      go_ret
      exact ⟨r, rfl, by omega, by omega, fun h => by omega, HQ.out⟩

set_option maxRecDepth 100000 in
set_option maxHeartbeats 1000000 in
theorem termsOf_any (ls : List (List Nd)) (A : Option Addr) (c : Nat) (most : Int) (w : World) (hm0 : 0 ≤ most) (hm1 : most ≤ 1000) (hlen : ls.length ≤ 1000) (hll : ∀ l ∈ ls, l.length ≤ 9000000000000000) (hs : ∀ l ∈ ls, SzL l) (h : TermsIn w A ls) :
    Calls Try.prog 13 #[.slice A ls.length c, .int .i64 most] w fun e w' => ∃ r : Int, e = .returned (.int .i64 r) ∧ 0 ≤ r ∧ (r ≤ most → ∀ l ∈ ls, (l.length : Int) ≤ most) ∧ Qt w w' := by
  obtain ⟨ts, hts⟩ : ∃ fs, Try.prog.underlying 24 = some (.struct fs) := ⟨_, Try.underlying24⟩
  have HTS := Lib.hid hts
  have HA := Lib.hid h
  have HS := Lib.hid hs
  have HLL := Lib.hid hll
  clear h hs hts hll
  go_enter Try.func13, Try.ntmps13
  go_wp2
  go_loopw [6, 5] (fun i n wr => ∃ (j : Nat) (r : Int), j ≤ ls.length ∧ i = .int .i64 j ∧ n = .int .i64 r ∧ 0 ≤ r ∧ r ≤ 1000 + 9000000000002 ∧ (r ≤ most → ∀ l ∈ ls.take j, (l.length : Int) ≤ most) ∧ Qt w wr) (fun i _ _ => ls.length - (intOf i).toNat)
  case atStart => exact ⟨0, 0, by omega, rfl, rfl, by omega, by omega, fun _ l hl => by simp at hl, Qt.refl w⟩
  case round =>
    obtain ⟨j, r, hj, rfl, rfl, hr0, hr1, hall, hq⟩ := hrel
    have HALL := Lib.hid hall
    have HQ := Lib.hid hq
    clear hall
    by_cases hlt : j < ls.length
    · by_cases hrm : r ≤ most
      · obtain ⟨l, hl⟩ : ∃ l, ls[j]? = some l := ⟨_, List.getElem?_eq_getElem hlt⟩
        obtain ⟨b, off, rfl, B, d, hc, hli⟩ := (HA.out.qt hq) j l hl
        have hlm := List.mem_of_getElem? hl
        have HT := Lib.hid (take_next hl)
        have hrg : wr.rangeAt b (off + j) [.slice B l.length d] := fun i u hu => by
          match i, hu with
          | 0, hu => cases hu; exact hc
        have HRG := Lib.hid hrg
        have HC := Lib.hid (termOf_any l _ _ most wr hm0 hm1 (HLL.out l hlm) (HS.out l hlm) hli)
        have hjl : ¬ ls.length ≤ j := by omega
        clear hc hli hrg hl hlm hq
        go_wp2_with (first
          | (refine armLm rfl 24 (.tmp 22) rfl b (off + j) rfl HRG.out (.struct ts) HTS.out rfl (by kernel_rfl) ?_)
          | (go_at_call 8; refine HC.out.mono ?_; rintro e w2 ⟨r2, rfl, h0, h1, h2, q2⟩; (have HQ2 := Lib.hid q2); (have HH2 := Lib.hid h2); clear q2 h2))
        go_roundw
        case rel =>
          refine ⟨j + 1, r + 1 + r2, by omega, by go_num, rfl, by omega, by omega, fun h x hx => ?_, HQ.out.trans HQ2.out⟩
          rw [HT.out] at hx
          rcases List.mem_append.1 hx with hx | hx
          · exact HALL.out (by omega) x hx
          · rw [List.mem_singleton.1 hx]; have := HH2.out (by omega); omega
        case measure => simp [intOf]; omega
      · go_wp2
        go_ret
        exact ⟨r, rfl, hr0, fun h => by omega, HQ.out⟩
    · obtain rfl : j = ls.length := by omega
      have hall := HALL.out
      rw [List.take_length] at hall
      have HALL2 := Lib.hid hall
      clear hall
      go_wp2
      go_ret
      exact ⟨r, rfl, hr0, HALL2.out, HQ.out⟩

/-! ### the same nodes -/
def eqNd (x y : Nd) : Bool := x.f0 == y.f0 && (x.f1 == y.f1 && (x.f2 == y.f2 && (x.f3.toList == y.f3.toList && x.f4 == y.f4)))
theorem eqRunNd (k : Nat) (x y : Nd) (w : World) : (Op.equalIn (k + 2) 32 (.agg (ndc x).toArray) (.agg (ndc y).toArray)).run Try.prog w = .ok (eqNd x y) w := by
  have hu := Try.underlying32
  have hf := show Try.prog.underlying 32 = some (.struct (Try.prog.fieldsOf 32)) by unfold Program.fieldsOf; rw [hu]
  rw [run_equalIn_struct (P := Try.prog) w (k + 1) 32 _ _ hf (by kernel_rfl)]
  unfold Program.fieldsOf
  rw [hu]
  unfold eqNd ndc
  simp only [Op.eqFields, Sem.run_bind, if_pos, ne_eq, String.reduceEq, not_false_eq_true]
  go_simp
  cases h1 : (x.f0 == y.f0) <;> cases h2 : (x.f1 == y.f1) <;> cases h3 : (x.f2 == y.f2) <;> cases h4 : (x.f3.toList == y.f3.toList) <;> cases h5 : (x.f4 == y.f4) <;> simp_all
theorem toList_inj' {a b : ByteArray} (h : a.toList = b.toList) : a = b := by
  cases a with | mk a =>
  cases b with | mk b =>
  rw [ByteArray.toList_mk, ByteArray.toList_mk] at h
  congr 1
  exact Array.toList_inj.1 h
theorem eqNd_iff (x y : Nd) : eqNd x y = true ↔ x = y := by
  unfold eqNd
  simp only [Bool.and_eq_true, beq_iff_eq]
  constructor
  · rintro ⟨h0, h1, h2, h3, h4⟩
    have h3' := toList_inj' h3
    cases x; cases y
    simp only at h0 h1 h2 h3' h4
    subst h0 h1 h2 h3' h4
    rfl
  · rintro rfl
    exact ⟨rfl, rfl, rfl, rfl, rfl⟩
attribute [local go_sem high] eqRunNd
theorem neqNd (x y : Nd) (w : World) : (binOp .neq 32 (.agg (ndc x).toArray) (.agg (ndc y).toArray)).run Try.prog w = .ok (.bool (!eqNd x y)) w := by
  go_simp
set_option maxRecDepth 100000 in
set_option maxHeartbeats 1000000 in
theorem sameNodes_any (l m : List Nd) (u v : Value) (lb mb : Nat → Prop) (w : World) (hl : l.length ≤ 1000000) (hm : m.length ≤ 1000000) (h : Lies w lb u l) (h' : Lies w mb v m) :
    Calls Try.prog 44 #[u, v] w fun e w' => ∃ r : Bool, e = .returned (.bool r) ∧ (r = true ↔ l = m) ∧ Qt w w' := by
  obtain ⟨ns, hns⟩ : ∃ fs, Try.prog.underlying 32 = some (.struct fs) := ⟨_, Try.underlying32⟩
  obtain ⟨A, c, rfl⟩ := h.form
  obtain ⟨B, d, rfl⟩ := h'.form
  have HNS := Lib.hid hns
  have HL := Lib.hid h
  have HM := Lib.hid h'
  clear h h' hns
  by_cases hlm : l.length = m.length
  · have hlm1 : l.length ≤ m.length := by omega
    have hlm2 : m.length ≤ l.length := by omega
    have g0 : ((l.length : Int) != (m.length : Int)) = false := by rw [bne_eq_false_iff_eq]; omega
    clear hlm
    go_enter Try.func44, Try.ntmps44
    go_wp2
    clear g0
    go_loopw [5] (fun i wr => ∃ j : Nat, j ≤ l.length ∧ i = .int .i64 j ∧ l.take j = m.take j ∧ Qt w wr) (fun i _ => l.length - (intOf i).toNat)
    case atStart => exact ⟨0, by omega, rfl, rfl, Qt.refl w⟩
    case round =>
      obtain ⟨j, hj, rfl, he, hq⟩ := hrel
      have HE := Lib.hid he
      have HQ := Lib.hid hq
      clear he
      by_cases hlt : j < l.length
      · obtain ⟨x, hx⟩ : ∃ x, l[j]? = some x := ⟨_, List.getElem?_eq_getElem hlt⟩
        obtain ⟨y, hy⟩ : ∃ y, m[j]? = some y := ⟨_, List.getElem?_eq_getElem (by omega)⟩
        obtain ⟨b, off, rfl, hrx⟩ := (HL.out.qt hq.drew).nth hx
        obtain ⟨b2, off2, rfl, hry⟩ := (HM.out.qt hq.drew).nth hy
        have HRX := Lib.hid hrx
        have HRY := Lib.hid hry
        have HX := Lib.hid hx
        have HY := Lib.hid hy
        clear hrx hry hx hy hq
        cases hxy : eqNd x y with
        | true =>
          have HXY := Lib.hid hxy
          clear hxy
          go_wp2
          refine wp_region_held (S := (fun u => u.rangeAt b (off + j * 5) (ndc x) ∧ u.rangeAt b2 (off2 + j * 5) (ndc y))) (by kernel_rfl) ?_
          change wpAnyH _ _ _ _ _ _ _ _ (World.drew _)
          refine genT fun F0 hA => ?_
          have z0 : F0.tmps.size = 26 := by rw [hA]; rfl
          have e0_0 : F0.eval (.tmp 0) = .slice (some ⟨b, off, none⟩) l.length c := by rw [hA]; rfl
          have e1_0 : F0.eval (.tmp 1) = .slice (some ⟨b2, off2, none⟩) m.length d := by rw [hA]; rfl
          have e5_0 : F0.eval (.tmp 5) = .int .i64 (j : Int) := by rw [hA]; rfl
          have HA := Lib.hid hA
          clear hA
          have HS := Lib.hid (show World.rangeAt wr.drew _ _ _ ∧ World.rangeAt wr.drew _ _ _ from ⟨HRX.out, HRY.out⟩)
          refine tkT (i := 0) (oi := _) (v := .slice (some ⟨b, off, none⟩) l.length c) rfl (by kernel_rfl) (by kernel_rfl) (by kernel_rfl) (fun _ _ _ h => h) HS.out (wantedT rfl) (fun w _ => mvT rfl e0_0 w) ?_
          intro F1 hF
          replace hF : F1 = F0.put (some 17) (.slice (some ⟨b, off, none⟩) l.length c) := hF
          have z1 : F1.tmps.size = 26 := by rw [hF]; simpa [Act.put] using z0
          have e1_1 := (show F1.eval (.tmp 1) = F0.eval (.tmp 1) by rw [hF]; exact evO (by decide)).trans e1_0
          have e5_1 := (show F1.eval (.tmp 5) = F0.eval (.tmp 5) by rw [hF]; exact evO (by decide)).trans e5_0
          have e17_1 : F1.eval (.tmp 17) = .slice (some ⟨b, off, none⟩) l.length c := by rw [hF]; exact evS (by rw [z0]; decide)
          have HF1 := Lib.hid hF
          clear hF e0_0 e1_0 e5_0
          refine tkT (i := 1) (oi := _) (v := .int .i64 (j : Int)) rfl (by kernel_rfl) (by kernel_rfl) (by kernel_rfl) (fun _ _ _ h => h) HS.out (wantedT rfl) (fun w _ => mvT rfl e5_1 w) ?_
          intro F2 hF
          replace hF : F2 = F1.put (some 18) (.int .i64 (j : Int)) := hF
          have z2 : F2.tmps.size = 26 := by rw [hF]; simpa [Act.put] using z1
          have e1_2 := (show F2.eval (.tmp 1) = F1.eval (.tmp 1) by rw [hF]; exact evO (by decide)).trans e1_1
          have e5_2 := (show F2.eval (.tmp 5) = F1.eval (.tmp 5) by rw [hF]; exact evO (by decide)).trans e5_1
          have e17_2 := (show F2.eval (.tmp 17) = F1.eval (.tmp 17) by rw [hF]; exact evO (by decide)).trans e17_1
          have e18_2 : F2.eval (.tmp 18) = .int .i64 (j : Int) := by rw [hF]; exact evS (by rw [z1]; decide)
          have HF2 := Lib.hid hF
          clear hF e1_1 e5_1 e17_1
          refine tkT (i := 2) (oi := _) (v := .pointer (some ⟨b, off + j * 5, none⟩)) rfl (by kernel_rfl) (by kernel_rfl) (by kernel_rfl) (fun _ _ _ h => h) HS.out (wantedT rfl) (fun w _ => iaT rfl e17_2 e18_2 (by have f1 : ¬ l.length ≤ j := (by omega); go_simp)) ?_
          intro F3 hF
          replace hF : F3 = F2.put (some 19) (.pointer (some ⟨b, off + j * 5, none⟩)) := hF
          have z3 : F3.tmps.size = 26 := by rw [hF]; simpa [Act.put] using z2
          have e1_3 := (show F3.eval (.tmp 1) = F2.eval (.tmp 1) by rw [hF]; exact evO (by decide)).trans e1_2
          have e5_3 := (show F3.eval (.tmp 5) = F2.eval (.tmp 5) by rw [hF]; exact evO (by decide)).trans e5_2
          have e19_3 : F3.eval (.tmp 19) = .pointer (some ⟨b, off + j * 5, none⟩) := by rw [hF]; exact evS (by rw [z2]; decide)
          have HF3 := Lib.hid hF
          clear hF e1_2 e5_2 e17_2 e18_2
          refine tkT (i := 3) (oi := _) (v := .agg (ndc x).toArray) rfl (by kernel_rfl) (by kernel_rfl) (by kernel_rfl) (fun _ _ _ h => h) HS.out (wantedT rfl) (fun w hs => lrT rfl e19_3 hs.1 (d := .struct ns) HNS.out rfl (by kernel_rfl)) ?_
          intro F4 hF
          replace hF : F4 = F3.put (some 20) (.agg (ndc x).toArray) := hF
          have z4 : F4.tmps.size = 26 := by rw [hF]; simpa [Act.put] using z3
          have e1_4 := (show F4.eval (.tmp 1) = F3.eval (.tmp 1) by rw [hF]; exact evO (by decide)).trans e1_3
          have e5_4 := (show F4.eval (.tmp 5) = F3.eval (.tmp 5) by rw [hF]; exact evO (by decide)).trans e5_3
          have e20_4 : F4.eval (.tmp 20) = .agg (ndc x).toArray := by rw [hF]; exact evS (by rw [z3]; decide)
          have HF4 := Lib.hid hF
          clear hF e1_3 e5_3 e19_3
          refine tkT (i := 4) (oi := _) (v := .slice (some ⟨b2, off2, none⟩) m.length d) rfl (by kernel_rfl) (by kernel_rfl) (by kernel_rfl) (fun _ _ _ h => h) HS.out (wantedT rfl) (fun w _ => mvT rfl e1_4 w) ?_
          intro F5 hF
          replace hF : F5 = F4.put (some 21) (.slice (some ⟨b2, off2, none⟩) m.length d) := hF
          have z5 : F5.tmps.size = 26 := by rw [hF]; simpa [Act.put] using z4
          have e5_5 := (show F5.eval (.tmp 5) = F4.eval (.tmp 5) by rw [hF]; exact evO (by decide)).trans e5_4
          have e20_5 := (show F5.eval (.tmp 20) = F4.eval (.tmp 20) by rw [hF]; exact evO (by decide)).trans e20_4
          have e21_5 : F5.eval (.tmp 21) = .slice (some ⟨b2, off2, none⟩) m.length d := by rw [hF]; exact evS (by rw [z4]; decide)
          have HF5 := Lib.hid hF
          clear hF e1_4 e5_4 e20_4
          refine tkT (i := 5) (oi := _) (v := .int .i64 (j : Int)) rfl (by kernel_rfl) (by kernel_rfl) (by kernel_rfl) (fun _ _ _ h => h) HS.out (wantedT rfl) (fun w _ => mvT rfl e5_5 w) ?_
          intro F6 hF
          replace hF : F6 = F5.put (some 22) (.int .i64 (j : Int)) := hF
          have z6 : F6.tmps.size = 26 := by rw [hF]; simpa [Act.put] using z5
          have e20_6 := (show F6.eval (.tmp 20) = F5.eval (.tmp 20) by rw [hF]; exact evO (by decide)).trans e20_5
          have e21_6 := (show F6.eval (.tmp 21) = F5.eval (.tmp 21) by rw [hF]; exact evO (by decide)).trans e21_5
          have e22_6 : F6.eval (.tmp 22) = .int .i64 (j : Int) := by rw [hF]; exact evS (by rw [z5]; decide)
          have HF6 := Lib.hid hF
          clear hF e5_5 e20_5 e21_5
          refine tkT (i := 6) (oi := _) (v := .pointer (some ⟨b2, off2 + j * 5, none⟩)) rfl (by kernel_rfl) (by kernel_rfl) (by kernel_rfl) (fun _ _ _ h => h) HS.out (wantedT rfl) (fun w _ => iaT rfl e21_6 e22_6 (by have f1 : ¬ m.length ≤ j := (by omega); go_simp)) ?_
          intro F7 hF
          replace hF : F7 = F6.put (some 23) (.pointer (some ⟨b2, off2 + j * 5, none⟩)) := hF
          have z7 : F7.tmps.size = 26 := by rw [hF]; simpa [Act.put] using z6
          have e20_7 := (show F7.eval (.tmp 20) = F6.eval (.tmp 20) by rw [hF]; exact evO (by decide)).trans e20_6
          have e23_7 : F7.eval (.tmp 23) = .pointer (some ⟨b2, off2 + j * 5, none⟩) := by rw [hF]; exact evS (by rw [z6]; decide)
          have HF7 := Lib.hid hF
          clear hF e20_6 e21_6 e22_6
          refine tkT (i := 7) (oi := _) (v := .agg (ndc y).toArray) rfl (by kernel_rfl) (by kernel_rfl) (by kernel_rfl) (fun _ _ _ h => h) HS.out (wantedT rfl) (fun w hs => lrT rfl e23_7 hs.2 (d := .struct ns) HNS.out rfl (by kernel_rfl)) ?_
          intro F8 hF
          replace hF : F8 = F7.put (some 24) (.agg (ndc y).toArray) := hF
          have z8 : F8.tmps.size = 26 := by rw [hF]; simpa [Act.put] using z7
          have e20_8 := (show F8.eval (.tmp 20) = F7.eval (.tmp 20) by rw [hF]; exact evO (by decide)).trans e20_7
          have e24_8 : F8.eval (.tmp 24) = .agg (ndc y).toArray := by rw [hF]; exact evS (by rw [z7]; decide)
          have HF8 := Lib.hid hF
          clear hF e20_7 e23_7
          refine tkT (i := 8) (oi := _) (v := .bool false) rfl (by kernel_rfl) (by kernel_rfl) (by kernel_rfl) (fun _ _ _ h => h) HS.out (wantedT rfl) (fun w hs => boT rfl e20_8 e24_8 (run_eqGuard_agg _ _ _ _ _ _ _ (by kernel_rfl)) (by rw [neqNd x y w, HXY.out]; rfl)) ?_
          intro F9 hF
          replace hF : F9 = F8.put (some 25) (.bool false) := hF
          have z9 : F9.tmps.size = 26 := by rw [hF]; simpa [Act.put] using z8
          have HF9 := Lib.hid hF
          clear hF e20_8 e24_8
          refine wpAnyH_done (by kernel_rfl) ?_ _
          rw [HF9.out, HF8.out, HF7.out, HF6.out, HF5.out, HF4.out, HF3.out, HF2.out, HF1.out, HA.out]
          simp only [Act.put, List.setIfInBounds_toArray, List.set_cons_succ, List.set_cons_zero]
          clear HF9 HF8 HF7 HF6 HF5 HF4 HF3 HF2 HF1 HA z9 z8 z7 z6 z5 z4 z3 z2 z1 z0 
          go_wp2
          go_roundw
          case rel => exact ⟨j + 1, by omega, by go_num, by rw [take_next HX.out, take_next HY.out, HE.out, (eqNd_iff x y).1 HXY.out], HQ.out.drew⟩
          case measure => simp [intOf]; omega
        | false =>
          have HXY := Lib.hid hxy
          clear hxy
          go_wp2
          refine wp_region_held (S := (fun u => u.rangeAt b (off + j * 5) (ndc x) ∧ u.rangeAt b2 (off2 + j * 5) (ndc y))) (by kernel_rfl) ?_
          change wpAnyH _ _ _ _ _ _ _ _ (World.drew _)
          refine genT fun F0 hA => ?_
          have z0 : F0.tmps.size = 26 := by rw [hA]; rfl
          have e0_0 : F0.eval (.tmp 0) = .slice (some ⟨b, off, none⟩) l.length c := by rw [hA]; rfl
          have e1_0 : F0.eval (.tmp 1) = .slice (some ⟨b2, off2, none⟩) m.length d := by rw [hA]; rfl
          have e5_0 : F0.eval (.tmp 5) = .int .i64 (j : Int) := by rw [hA]; rfl
          have HA := Lib.hid hA
          clear hA
          have HS := Lib.hid (show World.rangeAt wr.drew _ _ _ ∧ World.rangeAt wr.drew _ _ _ from ⟨HRX.out, HRY.out⟩)
          refine tkT (i := 0) (oi := _) (v := .slice (some ⟨b, off, none⟩) l.length c) rfl (by kernel_rfl) (by kernel_rfl) (by kernel_rfl) (fun _ _ _ h => h) HS.out (wantedT rfl) (fun w _ => mvT rfl e0_0 w) ?_
          intro F1 hF
          replace hF : F1 = F0.put (some 17) (.slice (some ⟨b, off, none⟩) l.length c) := hF
          have z1 : F1.tmps.size = 26 := by rw [hF]; simpa [Act.put] using z0
          have e1_1 := (show F1.eval (.tmp 1) = F0.eval (.tmp 1) by rw [hF]; exact evO (by decide)).trans e1_0
          have e5_1 := (show F1.eval (.tmp 5) = F0.eval (.tmp 5) by rw [hF]; exact evO (by decide)).trans e5_0
          have e17_1 : F1.eval (.tmp 17) = .slice (some ⟨b, off, none⟩) l.length c := by rw [hF]; exact evS (by rw [z0]; decide)
          have HF1 := Lib.hid hF
          clear hF e0_0 e1_0 e5_0
          refine tkT (i := 1) (oi := _) (v := .int .i64 (j : Int)) rfl (by kernel_rfl) (by kernel_rfl) (by kernel_rfl) (fun _ _ _ h => h) HS.out (wantedT rfl) (fun w _ => mvT rfl e5_1 w) ?_
          intro F2 hF
          replace hF : F2 = F1.put (some 18) (.int .i64 (j : Int)) := hF
          have z2 : F2.tmps.size = 26 := by rw [hF]; simpa [Act.put] using z1
          have e1_2 := (show F2.eval (.tmp 1) = F1.eval (.tmp 1) by rw [hF]; exact evO (by decide)).trans e1_1
          have e5_2 := (show F2.eval (.tmp 5) = F1.eval (.tmp 5) by rw [hF]; exact evO (by decide)).trans e5_1
          have e17_2 := (show F2.eval (.tmp 17) = F1.eval (.tmp 17) by rw [hF]; exact evO (by decide)).trans e17_1
          have e18_2 : F2.eval (.tmp 18) = .int .i64 (j : Int) := by rw [hF]; exact evS (by rw [z1]; decide)
          have HF2 := Lib.hid hF
          clear hF e1_1 e5_1 e17_1
          refine tkT (i := 2) (oi := _) (v := .pointer (some ⟨b, off + j * 5, none⟩)) rfl (by kernel_rfl) (by kernel_rfl) (by kernel_rfl) (fun _ _ _ h => h) HS.out (wantedT rfl) (fun w _ => iaT rfl e17_2 e18_2 (by have f1 : ¬ l.length ≤ j := (by omega); go_simp)) ?_
          intro F3 hF
          replace hF : F3 = F2.put (some 19) (.pointer (some ⟨b, off + j * 5, none⟩)) := hF
          have z3 : F3.tmps.size = 26 := by rw [hF]; simpa [Act.put] using z2
          have e1_3 := (show F3.eval (.tmp 1) = F2.eval (.tmp 1) by rw [hF]; exact evO (by decide)).trans e1_2
          have e5_3 := (show F3.eval (.tmp 5) = F2.eval (.tmp 5) by rw [hF]; exact evO (by decide)).trans e5_2
          have e19_3 : F3.eval (.tmp 19) = .pointer (some ⟨b, off + j * 5, none⟩) := by rw [hF]; exact evS (by rw [z2]; decide)
          have HF3 := Lib.hid hF
          clear hF e1_2 e5_2 e17_2 e18_2
          refine tkT (i := 3) (oi := _) (v := .agg (ndc x).toArray) rfl (by kernel_rfl) (by kernel_rfl) (by kernel_rfl) (fun _ _ _ h => h) HS.out (wantedT rfl) (fun w hs => lrT rfl e19_3 hs.1 (d := .struct ns) HNS.out rfl (by kernel_rfl)) ?_
          intro F4 hF
          replace hF : F4 = F3.put (some 20) (.agg (ndc x).toArray) := hF
          have z4 : F4.tmps.size = 26 := by rw [hF]; simpa [Act.put] using z3
          have e1_4 := (show F4.eval (.tmp 1) = F3.eval (.tmp 1) by rw [hF]; exact evO (by decide)).trans e1_3
          have e5_4 := (show F4.eval (.tmp 5) = F3.eval (.tmp 5) by rw [hF]; exact evO (by decide)).trans e5_3
          have e20_4 : F4.eval (.tmp 20) = .agg (ndc x).toArray := by rw [hF]; exact evS (by rw [z3]; decide)
          have HF4 := Lib.hid hF
          clear hF e1_3 e5_3 e19_3
          refine tkT (i := 4) (oi := _) (v := .slice (some ⟨b2, off2, none⟩) m.length d) rfl (by kernel_rfl) (by kernel_rfl) (by kernel_rfl) (fun _ _ _ h => h) HS.out (wantedT rfl) (fun w _ => mvT rfl e1_4 w) ?_
          intro F5 hF
          replace hF : F5 = F4.put (some 21) (.slice (some ⟨b2, off2, none⟩) m.length d) := hF
          have z5 : F5.tmps.size = 26 := by rw [hF]; simpa [Act.put] using z4
          have e5_5 := (show F5.eval (.tmp 5) = F4.eval (.tmp 5) by rw [hF]; exact evO (by decide)).trans e5_4
          have e20_5 := (show F5.eval (.tmp 20) = F4.eval (.tmp 20) by rw [hF]; exact evO (by decide)).trans e20_4
          have e21_5 : F5.eval (.tmp 21) = .slice (some ⟨b2, off2, none⟩) m.length d := by rw [hF]; exact evS (by rw [z4]; decide)
          have HF5 := Lib.hid hF
          clear hF e1_4 e5_4 e20_4
          refine tkT (i := 5) (oi := _) (v := .int .i64 (j : Int)) rfl (by kernel_rfl) (by kernel_rfl) (by kernel_rfl) (fun _ _ _ h => h) HS.out (wantedT rfl) (fun w _ => mvT rfl e5_5 w) ?_
          intro F6 hF
          replace hF : F6 = F5.put (some 22) (.int .i64 (j : Int)) := hF
          have z6 : F6.tmps.size = 26 := by rw [hF]; simpa [Act.put] using z5
          have e20_6 := (show F6.eval (.tmp 20) = F5.eval (.tmp 20) by rw [hF]; exact evO (by decide)).trans e20_5
          have e21_6 := (show F6.eval (.tmp 21) = F5.eval (.tmp 21) by rw [hF]; exact evO (by decide)).trans e21_5
          have e22_6 : F6.eval (.tmp 22) = .int .i64 (j : Int) := by rw [hF]; exact evS (by rw [z5]; decide)
          have HF6 := Lib.hid hF
          clear hF e5_5 e20_5 e21_5
          refine tkT (i := 6) (oi := _) (v := .pointer (some ⟨b2, off2 + j * 5, none⟩)) rfl (by kernel_rfl) (by kernel_rfl) (by kernel_rfl) (fun _ _ _ h => h) HS.out (wantedT rfl) (fun w _ => iaT rfl e21_6 e22_6 (by have f1 : ¬ m.length ≤ j := (by omega); go_simp)) ?_
          intro F7 hF
          replace hF : F7 = F6.put (some 23) (.pointer (some ⟨b2, off2 + j * 5, none⟩)) := hF
          have z7 : F7.tmps.size = 26 := by rw [hF]; simpa [Act.put] using z6
          have e20_7 := (show F7.eval (.tmp 20) = F6.eval (.tmp 20) by rw [hF]; exact evO (by decide)).trans e20_6
          have e23_7 : F7.eval (.tmp 23) = .pointer (some ⟨b2, off2 + j * 5, none⟩) := by rw [hF]; exact evS (by rw [z6]; decide)
          have HF7 := Lib.hid hF
          clear hF e20_6 e21_6 e22_6
          refine tkT (i := 7) (oi := _) (v := .agg (ndc y).toArray) rfl (by kernel_rfl) (by kernel_rfl) (by kernel_rfl) (fun _ _ _ h => h) HS.out (wantedT rfl) (fun w hs => lrT rfl e23_7 hs.2 (d := .struct ns) HNS.out rfl (by kernel_rfl)) ?_
          intro F8 hF
          replace hF : F8 = F7.put (some 24) (.agg (ndc y).toArray) := hF
          have z8 : F8.tmps.size = 26 := by rw [hF]; simpa [Act.put] using z7
          have e20_8 := (show F8.eval (.tmp 20) = F7.eval (.tmp 20) by rw [hF]; exact evO (by decide)).trans e20_7
          have e24_8 : F8.eval (.tmp 24) = .agg (ndc y).toArray := by rw [hF]; exact evS (by rw [z7]; decide)
          have HF8 := Lib.hid hF
          clear hF e20_7 e23_7
          refine tkT (i := 8) (oi := _) (v := .bool true) rfl (by kernel_rfl) (by kernel_rfl) (by kernel_rfl) (fun _ _ _ h => h) HS.out (wantedT rfl) (fun w hs => boT rfl e20_8 e24_8 (run_eqGuard_agg _ _ _ _ _ _ _ (by kernel_rfl)) (by rw [neqNd x y w, HXY.out]; rfl)) ?_
          intro F9 hF
          replace hF : F9 = F8.put (some 25) (.bool true) := hF
          have z9 : F9.tmps.size = 26 := by rw [hF]; simpa [Act.put] using z8
          have HF9 := Lib.hid hF
          clear hF e20_8 e24_8
          refine wpAnyH_done (by kernel_rfl) ?_ _
          rw [HF9.out, HF8.out, HF7.out, HF6.out, HF5.out, HF4.out, HF3.out, HF2.out, HF1.out, HA.out]
          simp only [Act.put, List.setIfInBounds_toArray, List.set_cons_succ, List.set_cons_zero]
          clear HF9 HF8 HF7 HF6 HF5 HF4 HF3 HF2 HF1 HA z9 z8 z7 z6 z5 z4 z3 z2 z1 z0 
          go_wp2
          go_ret
          refine ⟨false, rfl, ⟨fun h => (by cases h), fun h => ?_⟩, HQ.out.drew⟩
          subst h
          have : x = y := Option.some.inj (HX.out.symm.trans HY.out)
          rw [(eqNd_iff x y).2 this] at HXY
          exact absurd HXY.out (by decide)
      · obtain rfl : j = l.length := by omega
        go_wp2
        go_ret
        refine ⟨true, rfl, ⟨fun _ => ?_, fun _ => rfl⟩, HQ.out⟩
        have he := HE.out
        rw [List.take_length, List.take_of_length_le (by omega)] at he
        exact he
  · have g0 : ((l.length : Int) != (m.length : Int)) = true := by rw [bne_iff_ne]; omega
    have HLM := Lib.hid hlm
    clear hlm
    go_enter Try.func44, Try.ntmps44
    go_wp2
    go_ret
    exact ⟨false, rfl, ⟨fun h => (by cases h), fun h => absurd (by rw [h]) HLM.out⟩, Qt.refl w⟩
set_option maxHeartbeats 1000000 in
theorem sameTerm_any (l m : List Nd) (u v : Value) (lb mb : Nat → Prop) (w : World) (hl : l.length ≤ 1000000) (hm : m.length ≤ 1000000) (h : Lies w lb u l) (h' : Lies w mb v m) :
    Calls Try.prog 16 #[.agg #[u], .agg #[v]] w fun e w' => ∃ r : Bool, e = .returned (.bool r) ∧ (r = true ↔ l = m) ∧ Qt w w' := by
  obtain ⟨A, c, rfl⟩ := h.form
  obtain ⟨B, d, rfl⟩ := h'.form
  have q1 : Qt w ((w.alloc (.cells #[.slice A l.length c] 24)).alloc (.cells #[.slice B m.length d] 24)) := ((Qt.refl w).alloc _).alloc _
  have HC := Lib.hid (sameNodes_any l m _ _ lb mb _ hl hm (h.qt q1) (h'.qt q1))
  have HQ1 := Lib.hid q1
  clear h h' q1
  go_enter Try.func16, Try.ntmps16
  go_wp2_with (go_at_call 44; refine HC.out.mono ?_; rintro e w2 ⟨r, rfl, hr, q2⟩; (have HR := Lib.hid hr); (have HQ2 := Lib.hid q2); clear hr q2)
  go_ret
  exact ⟨r, rfl, HR.out, HQ1.out.trans HQ2.out⟩
end Go.Proofs.Ytipgpnkdgofdeaa.Tm
