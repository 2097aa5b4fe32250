import Derived.Test.YtipgpnkdgofdeaaPO
import Derived.Test.YtipgpnkdgofdeaaJB
/-! TermOrder: plain laws. -/
namespace Go.Proofs.Ytipgpnkdgofdeaa.Tm
open Go.RowKit Go.Proofs.Ytipgpnkdgofdeaa.Fl
set_option linter.unusedVariables false
set_option linter.unusedSimpArgs false

def WfL (l : List Nd) : Prop := ∀ n ∈ l, Wd n.f2
theorem Wf.of {l : List Nd} {t : Tr} (h : opn l = some t) (hw : WfL l) : Wf t := fun n hn => hw n (by rw [opn_flat h]; exact hn)
theorem ordL_a2 {l m : List Nd} (hl : WfL l) (hm : WfL m) : A2 (ordL l m) (ordL m l) := by
  unfold ordL
  rcases h1 : opn l with _ | t <;> rcases h2 : opn m with _ | u
  · show A2 0 0
    unfold A2; omega
  · show A2 (-1) 1
    unfold A2; omega
  · show A2 1 (-1)
    unfold A2; omega
  · exact ord_a2 t u (Wf.of h1 hl) (Wf.of h2 hm)
theorem ordL_t3 {l m k : List Nd} (hl : WfL l) (hm : WfL m) (hk : WfL k) : T3 (ordL l m) (ordL m k) (ordL l k) := by
  unfold ordL
  rcases h1 : opn l with _ | t <;> rcases h2 : opn m with _ | u <;> rcases h3 : opn k with _ | x
  · show T3 0 0 0
    unfold T3; omega
  · show T3 0 (-1) (-1)
    unfold T3; omega
  · show T3 (-1) 1 0
    unfold T3; omega
  · show T3 (-1) _ (-1)
    unfold T3; omega
  · show T3 1 0 1
    unfold T3; omega
  · show T3 1 (-1) _
    unfold T3; omega
  · show T3 _ 1 1
    unfold T3; omega
  · exact ord_t3 t u x (Wf.of h1 hl) (Wf.of h2 hm) (Wf.of h3 hk)
theorem ordL_self {l : List Nd} (hl : WfL l) : ordL l l = 0 := by
  have := ordL_a2 hl hl
  unfold A2 at this
  omega
theorem ordL_le {l m k : List Nd} (hl : WfL l) (hm : WfL m) (hk : WfL k) (h1 : ordL l m ≤ 0) (h2 : ordL m k ≤ 0) : ordL l k ≤ 0 := by
  have := ordL_t3 hl hm hk
  unfold T3 at this
  omega

/-! ### right terms -/
theorem lz_iff {a b : Int} {s : ByteArray} (h : lz a b s = true) : a = 0 ∧ b = 0 := by
  unfold lz at h
  simp only [Bool.and_eq_true, beq_iff_eq] at h
  exact ⟨h.1, h.2.1⟩
theorem kOk_f2 {n : Nd} {ks : List Tr} (h : kOk n ks = true) : fbits n.f2.toNat = n.f2 ∧ (n.f0 ≠ 3 → n.f2 = 0) := by
  unfold kOk at h
  simp only [Bool.and_eq_true] at h
  obtain ⟨_, hq, hz⟩ := h
  have h2 := (lz_iff hz).2
  unfold kB at h2
  by_cases h3 : n.f0 = 3
  · refine ⟨?_, fun h => absurd h3 h⟩
    unfold kQ at hq
    rw [if_neg (by omega), if_neg (by omega), if_pos h3] at hq
    simp only [Bool.and_eq_true, beq_iff_eq] at hq
    exact hq.2
  · rw [if_neg h3] at h2
    exact ⟨by rw [h2]; decide +kernel, fun _ => h2⟩
theorem ba_ext {a b : ByteArray} (h : a.data.toList = b.data.toList) : a = b := by
  cases a; cases b
  congr 1
  exact Array.toList_inj.1 h
mutual
theorem right_eq : ∀ t u : Tr, rightT t = true → rightT u = true → CW t → CW u → Wf t → Wf u → ord t u = 0 → t = u
  | .mk n ks, .mk m js, ht, hu, ct, cu, wt, wu, h => by
    rw [rightT, Bool.and_eq_true] at ht hu
    rw [ord] at h
    split at h
    · rename_i hn
      have hk := rights_eq ks js ht.2 hu.2 ct.2 cu.2 wt.kids wu.kids h
      subst hk
      rw [ncmp_lex] at hn
      split at hn
      · rename_i e0
        split at hn
        · rename_i e1
          split at hn
          · rename_i e2
            have f0 := icmp_zero.1 e0
            have f1 := icmp_zero.1 e1
            have f2 := (ford_zero wt.nd wu.nd).1 e2
            rw [(kOk_f2 ht.1).1, (kOk_f2 hu.1).1] at f2
            have f3 := ba_ext (cb_zero _ _ hn)
            have f4 : n.f4 = m.f4 := by rw [ct.1, cu.1]
            cases n; cases m
            simp only at f0 f1 f2 f3 f4
            subst f0 f1 f2 f3 f4
            rfl
          · omega
        · omega
      · omega
    · omega
theorem rights_eq : ∀ ks js : List Tr, rights ks = true → rights js = true → CWs ks → CWs js → Wfs ks → Wfs js → ords ks js = 0 → ks = js
  | [], [], _, _, _, _, _, _, _ => rfl
  | [], _ :: _, _, _, _, _, _, _, h => by simp [ords] at h
  | _ :: _, [], _, _, _, _, _, _, h => by simp [ords] at h
  | k :: ks, j :: js, hk, hj, ck, cj, wk, wj, h => by
    rw [rights, Bool.and_eq_true] at hk hj
    rw [ords] at h
    split at h
    · rename_i h0
      rw [right_eq k j hk.1 hj.1 ck.1 cj.1 wk.head wj.head h0, rights_eq ks js hk.2 hj.2 ck.2 cj.2 wk.tail wj.tail h]
    · omega
end
theorem fits_opn {l : List Nd} {a b : Int} (h : fitsL l a b = true) : ∃ t, opn l = some t ∧ rightT t = true := by
  unfold fitsL at h
  rw [Bool.and_eq_true] at h
  rcases h1 : opn l with _ | t
  · rw [h1] at h; cases h.2
  · rw [h1] at h
    exact ⟨t, rfl, (Bool.and_eq_true_iff.1 h.2).2⟩
theorem right_same {l m : List Nd} (hl : WfL l) (hm : WfL m) (h1 : fitsL l 100 16 = true) (h2 : fitsL m 100 16 = true) : ordL l m = 0 ↔ l = m := by
  obtain ⟨t, e1, r1⟩ := fits_opn h1
  obtain ⟨u, e2, r2⟩ := fits_opn h2
  constructor
  · intro h
    unfold ordL at h
    rw [e1, e2] at h
    have := right_eq t u r1 r2 (opn_cw e1) (opn_cw e2) (Wf.of e1 hl) (Wf.of e2 hm) h
    rw [opn_flat e1, opn_flat e2, this]
  · rintro rfl
    exact ordL_self hl

/-! ### deep, same -/
theorem dep_pos (t : Tr) : 0 < dep t := by cases t; simp [dep]
theorem deepL_zero {l : List Nd} : deepL l = 0 ↔ opn l = none := by
  unfold deepL
  rcases h : opn l with _ | t
  · simp
  · have := dep_pos t; simp; omega
theorem sameL_deep {l m : List Nd} (h : sameL l m = true) : 0 < deepL l ∧ 0 < deepL m := by
  unfold sameL at h
  unfold deepL
  rcases h1 : opn l with _ | t <;> rcases h2 : opn m with _ | u <;> rw [h1, h2] at h
  · cases h
  · cases h
  · cases h
  · exact ⟨dep_pos t, dep_pos u⟩
theorem sameL_ord {l m : List Nd} {t u : Tr} (h1 : opn l = some t) (h2 : opn m = some u) : sameL l m = (ordL l m == 0) := by
  unfold sameL ordL
  rw [h1, h2]

/-! ### joined -/
theorem joinL_flat (n : Nd) (ts : List Tr) : joinL n (ts.map Tr.flat) = (joinT n ts).flat := by
  unfold joinL joinT
  rw [Tr.flat, flats_flat, List.length_map]
theorem ord_join (n : Nd) (hn : Wd n.f2) (ts us : List Tr) (ht : CWs ts) (hu : CWs us) : ordL (joinL n (ts.map Tr.flat)) (joinL n (us.map Tr.flat)) = ords ts us := by
  rw [joinL_flat, joinL_flat]
  unfold ordL
  rw [opn_join n ts ht, opn_join n us hu]
  show ord _ _ = _
  unfold joinT
  rw [ord]
  have h0 : ncmp n n = 0 := by have := ncmp_a2 (a := n) (b := n) hn hn; unfold A2 at this; omega
  rw [if_pos (show ncmp ⟨n.f0, n.f1, n.f2, n.f3, (ts.length : Int)⟩ ⟨n.f0, n.f1, n.f2, n.f3, (us.length : Int)⟩ = 0 from h0)]
section
variable {a b c : List Nd} {t u x : Tr} (n : Nd) (hn : Wd n.f2) (h1 : opn a = some t) (h2 : opn b = some u) (h3 : opn c = some x) (ha : WfL a) (hb : WfL b) (hc : WfL c)
include hn h1 h2 h3 ha hb hc
theorem ord_join3 (h : ordL a b ≠ 0) : ordL (joinL n [c, a, c]) (joinL n [c, b, a]) = ordL a b := by
  have _u := (⟨h1, h2, h3, ha, hb, hc⟩ : _ ∧ _ ∧ _ ∧ _ ∧ _ ∧ _)
  have e := ord_join n hn [x, t, x] [x, u, t] ⟨opn_cw h3, opn_cw h1, opn_cw h3, trivial⟩ ⟨opn_cw h3, opn_cw h2, opn_cw h1, trivial⟩
  simp only [List.map_cons, List.map_nil, ← opn_flat h1, ← opn_flat h2, ← opn_flat h3] at e
  rw [e]
  have e2 : ordL a b = ord t u := by unfold ordL; rw [h1, h2]
  rw [e2] at h ⊢
  rw [ords, if_pos (ord_self (Wf.of h3 hc)), ords, if_neg h]
theorem ord_join2 : ordL (joinL n [c, a]) (joinL n [c, b]) = ordL a b := by
  have _u := (⟨h1, h2, h3, ha, hb, hc⟩ : _ ∧ _ ∧ _ ∧ _ ∧ _ ∧ _)
  have e := ord_join n hn [x, t] [x, u] ⟨opn_cw h3, opn_cw h1, trivial⟩ ⟨opn_cw h3, opn_cw h2, trivial⟩
  simp only [List.map_cons, List.map_nil, ← opn_flat h1, ← opn_flat h2, ← opn_flat h3] at e
  rw [e]
  have e2 : ordL a b = ord t u := by unfold ordL; rw [h1, h2]
  rw [e2, ords, if_pos (ord_self (Wf.of h3 hc)), ords]
  split
  · rename_i h; rw [h, ords]
  · rfl
theorem ord_join23 : ordL (joinL n [c, a]) (joinL n [c, a, c]) = -1 := by
  have _u := (⟨h1, h2, h3, ha, hb, hc⟩ : _ ∧ _ ∧ _ ∧ _ ∧ _ ∧ _)
  have e := ord_join n hn [x, t] [x, t, x] ⟨opn_cw h3, opn_cw h1, trivial⟩ ⟨opn_cw h3, opn_cw h1, opn_cw h3, trivial⟩
  simp only [List.map_cons, List.map_nil, ← opn_flat h1, ← opn_flat h3] at e
  rw [e, ords, if_pos (ord_self (Wf.of h3 hc)), ords, if_pos (ord_self (Wf.of h1 ha)), ords]
theorem ord_join02 : ordL (joinL n []) (joinL n [c, b]) = -1 := by
  have _u := (⟨h1, h2, h3, ha, hb, hc⟩ : _ ∧ _ ∧ _ ∧ _ ∧ _ ∧ _)
  have e := ord_join n hn [] [x, u] trivial ⟨opn_cw h3, opn_cw h2, trivial⟩
  simp only [List.map_cons, List.map_nil, ← opn_flat h2, ← opn_flat h3] at e
  rw [e, ords]
end
end Go.Proofs.Ytipgpnkdgofdeaa.Tm
