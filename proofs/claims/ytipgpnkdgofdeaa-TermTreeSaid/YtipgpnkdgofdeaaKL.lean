import Derived.Test.YtipgpnkdgofdeaaRJ
/-! A drawn region that lays a row of nodes anew and one behind it, and a new term: its orders. -/
namespace Go.Proofs.Ytipgpnkdgofdeaa.Tm
open Go.RowKit
set_option linter.unusedVariables false
set_option linter.unusedSimpArgs false

/-- append to a row without room: the row lies anew. -/
theorem run_appE {w : World} {P : Program} (base : Nat) (t tx ty e : TypeId) (i : TypeInfo) (z : Value) (size bytes : Nat) (ht : P.underlying t = some (.slice e)) (hi : P.info? e = some i) (hz : i.zero = some z)
    (hsize : i.size = size) (hby : i.bytes = bytes) (hzs : z.cells.size = size) (b : Addr) (x : Value) (m : Nat) (news : List Value) (hs : Src P size tx x m news w)
    (hm : 0 < m) (h63 : m ≤ maxLen) (hb : m * bytes ≤ 140737488355328) (hbase : base ≤ w.heap.size) :
    ∃ v' w', (Builtin.append_ #[t, tx] ty #[.slice (some b) 0 0, x]).run P w = .ok v' w' ∧ OQ w' base size v' m news ∧ Qt w w' := by
  subst hsize
  subst hby
  have hnl := hs.newsLen
  have hold : (Builtin.firstCells i.size 0 (.slice (some b) 0 0)).run P w.drew = .ok ([] : List Value).toArray w.drew := run_firstCells_some w.drew i.size 0 b 0 0 [] (by simp) (fun j u hu => by cases hu)
  have hr := run_append_grow_src (P := P) w t tx ty e i z ht hi hz (some b) 0 0 [] hold x m news hs (by omega) (by unfold maxLen at h63; omega) (growslice_fits (by omega) (by rw [Nat.zero_add]; exact hb))
  have hge := grownCap_ge w (0 + m) 0 e
  have hcm := grownCap_le_maxLen w (0 + m) 0 e (by omega)
  refine ⟨_, _, hr, ⟨hnl, .inr ⟨w.heap.size, 0, _, by rw [Nat.zero_add], hbase, by simp, by omega, hcm, ?_, ?_⟩⟩, ((Qt.refl w).drew.alloc _)⟩
  · intro j hj
    have hsz : (([] ++ news).toArray ++ Builtin.zeroCells z.cells (grownCap w (0 + m) 0 e - (0 + m))).size = grownCap w (0 + m) 0 e * i.size := by
      simp only [Array.size_append, List.size_toArray, size_zeroCells, hzs, List.length_append, List.length_nil, hnl]
      rw [Nat.zero_add, ← Nat.add_mul]; congr 1; omega
    constructor
    · rw [show w.heap.size = w.drew.heap.size from rfl, World.cell?_alloc_new, Array.getElem?_eq_getElem (by rw [hsz]; omega)]; rfl
    · exact World.frozen?_alloc_new (w := w.drew) _ _ _
  · intro j u hu
    have hj : j < ([] ++ news).length := by
      rcases Nat.lt_or_ge j news.length with h | h
      · simpa using h
      · rw [List.getElem?_eq_none h] at hu; cases hu
    rw [show w.heap.size = w.drew.heap.size from rfl, World.cell?_alloc_new, Nat.zero_add, Array.getElem?_append_left (by simpa using hj)]
    simpa using hu

structure Lg (F : Act) (w0 : World) (a : List Nd) (n : Nd) (listed : Array Bool) (f : Act) (w : World) : Prop where
  sz : f.tmps.size = 180
  df : f.defers = F.defers
  oth : ∀ s, s ≠ 156 → s ≠ 159 → s ≠ 161 → s ≠ 162 → s ≠ 163 → s ≠ 18 → f.eval (.tmp s) = F.eval (.tmp s)
  q : Qt w0 w
  f0 : listed[0]? = some true → ∃ g, f.eval (.tmp 156) = .slice (some ⟨g, 0, none⟩) 0 0
  f3 : listed[3]? = some true → listed[6]? = some false → ∃ A c, f.eval (.tmp 159) = .slice A a.length c ∧ OQ w w0.heap.size 5 (.slice A a.length c) a.length (ndcs a)
  f5 : listed[5]? = some true → listed[6]? = some false → ∃ g, f.eval (.tmp 161) = .slice (some ⟨g, 0, none⟩) 1 1 ∧ Blk w g 32 (ndc n)
  f6 : listed[6]? = some true → ∃ A c, f.eval (.tmp 162) = .slice A (a.length + 1) c ∧ OQ w w0.heap.size 5 (.slice A (a.length + 1) c) (a.length + 1) (ndcs (a ++ [n]))
  f7 : listed[7]? = some true → ∃ A c, f.eval (.tmp 163) = .agg #[.slice A (a.length + 1) c] ∧ OQ w w0.heap.size 5 (.slice A (a.length + 1) c) (a.length + 1) (ndcs (a ++ [n]))
  f8 : listed[8]? = some true → ∃ g, f.eval (.tmp 18) = .pointer (some ⟨g, 0, none⟩) ∧ w0.heap.size ≤ g ∧ Blk w g 24 [.slice none 0 0]
theorem Lg.put {F : Act} {w0 w w' : World} {a : List Nd} {n : Nd} {listed : Array Bool} {f : Act} (h : Lg F w0 a n listed f w) (i s : Nat) (v : Value)
    (hs : (i = 0 ∧ s = 156) ∨ (i = 3 ∧ s = 159) ∨ (i = 5 ∧ s = 161) ∨ (i = 6 ∧ s = 162) ∨ (i = 7 ∧ s = 163) ∨ (i = 8 ∧ s = 18)) (hi : listed[i]? = some false) (q : Qt w0 w')
    (k8 : ∀ g, Blk w g 24 [.slice none 0 0] → Blk w' g 24 [.slice none 0 0]) (k3 : i ≠ 6 → ∀ v m xs, OQ w w0.heap.size 5 v m xs → OQ w' w0.heap.size 5 v m xs) (k5 : i ≠ 6 → ∀ g, Blk w g 32 (ndc n) → Blk w' g 32 (ndc n))
    (h76 : i = 6 → listed[7]? = some false)
    (n0 : i = 0 → ∃ g, v = .slice (some ⟨g, 0, none⟩) 0 0)
    (n3 : i = 3 → ∃ A c, v = .slice A a.length c ∧ OQ w' w0.heap.size 5 (.slice A a.length c) a.length (ndcs a))
    (n5 : i = 5 → ∃ g, v = .slice (some ⟨g, 0, none⟩) 1 1 ∧ Blk w' g 32 (ndc n))
    (n6 : i = 6 → ∃ A c, v = .slice A (a.length + 1) c ∧ OQ w' w0.heap.size 5 (.slice A (a.length + 1) c) (a.length + 1) (ndcs (a ++ [n])))
    (n7 : i = 7 → ∃ A c, v = .agg #[.slice A (a.length + 1) c] ∧ OQ w' w0.heap.size 5 (.slice A (a.length + 1) c) (a.length + 1) (ndcs (a ++ [n])))
    (n8 : i = 8 → ∃ g, v = .pointer (some ⟨g, 0, none⟩) ∧ w0.heap.size ≤ g ∧ Blk w' g 24 [.slice none 0 0]) :
    Lg F w0 a n (listed.setIfInBounds i true) (f.put (some s) v) w' := by
  have N0 := Lib.hid n0; have N3 := Lib.hid n3; have N5 := Lib.hid n5; have N6 := Lib.hid n6; have N7 := Lib.hid n7; have N8 := Lib.hid n8; have K3 := Lib.hid k3; have K5 := Lib.hid k5; have H76 := Lib.hid h76
  clear n0 n3 n5 n6 n7 n8 k3 k5 h76
  have hs180 : s < 180 := by rcases hs with h | h | h | h | h | h <;> omega
  have hsl : s < f.tmps.size := by rw [h.sz]; exact hs180
  have hget : ∀ j, j ≠ i → (listed.setIfInBounds i true)[j]? = listed[j]? := fun j hj => by rw [Array.getElem?_setIfInBounds, if_neg (fun e => hj e.symm)]
  have hval : ∀ t, t ≠ s → (f.put (some s) v).eval (.tmp t) = f.eval (.tmp t) := fun t ht => evO (fun e => ht e.symm)
  have hnew : (f.put (some s) v).eval (.tmp s) = v := evS hsl
  have h6 : i ≠ 6 → (listed.setIfInBounds i true)[6]? = some false → listed[6]? = some false := fun hi6 e => by rwa [hget 6 (fun e => hi6 e.symm)] at e
  have h66 : i = 6 → (listed.setIfInBounds i true)[6]? = some true := fun e => by
    subst e
    have hlt := (Array.getElem?_eq_some_iff.1 hi).1
    rw [Array.getElem?_setIfInBounds, if_pos rfl, if_pos hlt]
  refine ⟨by simpa [Act.put] using h.sz, by simpa [Act.put] using h.df, fun t h1 h2 h3 h4 h5 h6' => (hval t (by rcases hs with ⟨_, rfl⟩ | ⟨_, rfl⟩ | ⟨_, rfl⟩ | ⟨_, rfl⟩ | ⟨_, rfl⟩ | ⟨_, rfl⟩ <;> assumption)).trans (h.oth t h1 h2 h3 h4 h5 h6'), q, fun hl => ?_, fun hl h6' => ?_, fun hl h6' => ?_, fun hl => ?_, fun hl => ?_, fun hl => ?_⟩
  · by_cases e : i = 0
    · obtain rfl : s = 156 := by omega
      rw [hnew]; exact N0.out e
    · rw [hval _ (by omega)]
      exact h.f0 (by rwa [hget 0 (fun x => e x.symm)] at hl)
  · by_cases e : i = 3
    · obtain rfl : s = 159 := by omega
      rw [hnew]; exact N3.out e
    · have hi6 : i ≠ 6 := fun e6 => by rw [h66 e6] at h6'; cases h6'
      rw [hval _ (by omega)]
      obtain ⟨A, c, e1, e2⟩ := h.f3 (by rwa [hget 3 (fun x => e x.symm)] at hl) (h6 hi6 h6')
      exact ⟨A, c, e1, K3.out hi6 _ _ _ e2⟩
  · by_cases e : i = 5
    · obtain rfl : s = 161 := by omega
      rw [hnew]; exact N5.out e
    · have hi6 : i ≠ 6 := fun e6 => by rw [h66 e6] at h6'; cases h6'
      rw [hval _ (by omega)]
      obtain ⟨g, e1, e2⟩ := h.f5 (by rwa [hget 5 (fun x => e x.symm)] at hl) (h6 hi6 h6')
      exact ⟨g, e1, K5.out hi6 _ e2⟩
  · by_cases e : i = 6
    · obtain rfl : s = 162 := by omega
      rw [hnew]; exact N6.out e
    · rw [hval _ (by omega)]
      obtain ⟨A, c, e1, e2⟩ := h.f6 (by rwa [hget 6 (fun x => e x.symm)] at hl)
      exact ⟨A, c, e1, K3.out e _ _ _ e2⟩
  · by_cases e : i = 7
    · obtain rfl : s = 163 := by omega
      rw [hnew]; exact N7.out e
    · have hi6 : i ≠ 6 := fun e6 => by
        rw [hget 7 (fun x => e x.symm), H76.out e6] at hl
        cases hl
      rw [hval _ (by omega)]
      obtain ⟨A, c, e1, e2⟩ := h.f7 (by rwa [hget 7 (fun x => e x.symm)] at hl)
      exact ⟨A, c, e1, K3.out hi6 _ _ _ e2⟩
  · by_cases e : i = 8
    · obtain rfl : s = 18 := by omega
      rw [hnew]; exact N8.out e
    · rw [hval _ (by omega)]
      obtain ⟨g, e1, e2, e3⟩ := h.f8 (by rwa [hget 8 (fun x => e x.symm)] at hl)
      exact ⟨g, e1, e2, k8 _ e3⟩
theorem Lg.putQ {F : Act} {w0 w w' : World} {a : List Nd} {n : Nd} {listed : Array Bool} {f : Act} (h : Lg F w0 a n listed f w) (i s : Nat) (v : Value)
    (hs : (i = 0 ∧ s = 156) ∨ (i = 3 ∧ s = 159) ∨ (i = 5 ∧ s = 161) ∨ (i = 6 ∧ s = 162) ∨ (i = 7 ∧ s = 163) ∨ (i = 8 ∧ s = 18)) (hi : listed[i]? = some false) (q : Qt w w') (h6 : i ≠ 6)
    (n0 : i = 0 → ∃ g, v = .slice (some ⟨g, 0, none⟩) 0 0)
    (n3 : i = 3 → ∃ A c, v = .slice A a.length c ∧ OQ w' w0.heap.size 5 (.slice A a.length c) a.length (ndcs a))
    (n5 : i = 5 → ∃ g, v = .slice (some ⟨g, 0, none⟩) 1 1 ∧ Blk w' g 32 (ndc n))
    (n7 : i = 7 → ∃ A c, v = .agg #[.slice A (a.length + 1) c] ∧ OQ w' w0.heap.size 5 (.slice A (a.length + 1) c) (a.length + 1) (ndcs (a ++ [n])))
    (n8 : i = 8 → ∃ g, v = .pointer (some ⟨g, 0, none⟩) ∧ w0.heap.size ≤ g ∧ Blk w' g 24 [.slice none 0 0]) :
    Lg F w0 a n (listed.setIfInBounds i true) (f.put (some s) v) w' :=
  h.put i s v hs hi (h.q.trans q) (fun g hb => hb.qt q) (fun _ _ _ _ ho => ho.below q) (fun _ _ hb => hb.qt q) (fun e => absurd e h6) n0 n3 n5 (fun e => absurd e h6) n7 n8
theorem ndcs_snoc (a : List Nd) (n : Nd) : ndcs (a ++ [n]) = ndcs a ++ ndc n := by
  unfold ndcs
  rw [List.flatMap_append]
  simp
theorem bsNd (w : World) (n : Nd) : (Instr.buildSlice 22 1 #[(0, .agg (ndc n).toArray)]).run Try.prog w = .ok (.slice (some ⟨w.heap.size, 0, none⟩) 1 1) (w.alloc (.cells (ndc n).toArray 32)) := by
  obtain ⟨i, z, hi, hz, hs, _, _⟩ := infoNd
  refine run_buildSlice w 22 32 1 _ (ndc n).toArray i z (by kernel_rfl) hi hz (by rw [hs]; decide) (by rw [hs]; decide) ?_
  rw [hs]
  exact fill5 _ (by simp) (ndc n) rfl
def leftL (l : Array Bool) : Nat := (l.toList.filter (fun b => !b)).length - 1
set_option maxHeartbeats 1000000 in
theorem longR {md : Region.Mode} {ops : Array Oper} {Q : Exit → Act → World → Prop} {S : World → Prop} (F : Act) (w0 : World) (kf : Nat) (a : List Nd) (n : Nd) (P1 : Option Addr) (c1 : Nat) (Ls : List (Array Bool)) (LB LE : Array Bool) (o0 o3 o5 o6 o7 o8 : Oper)
    (g0 : ops[0]? = some o0 ∧ o0.guard = none ∧ o0.dst = some 156 ∧ o0.op = .buildSlice 22 0 #[])
    (g3 : ops[3]? = some o3 ∧ o3.guard = none ∧ o3.dst = some 159 ∧ o3.op = .call { callee := .builtin .append, args := #[.tmp 156, .tmp 158], argTypes := #[22, 22] })
    (g5 : ops[5]? = some o5 ∧ o5.guard = none ∧ o5.dst = some 161 ∧ o5.op = .buildSlice 22 1 #[(0, .tmp 160)])
    (g6 : ops[6]? = some o6 ∧ o6.guard = none ∧ o6.dst = some 162 ∧ o6.op = .call { callee := .builtin .append, args := #[.tmp 159, .tmp 161], argTypes := #[22, 22] })
    (g7 : ops[7]? = some o7 ∧ o7.guard = none ∧ o7.dst = some 163 ∧ o7.op = .build 24 #[(0, .tmp 162)])
    (g8 : ops[8]? = some o8 ∧ o8.guard = none ∧ o8.dst = some 18 ∧ o8.op = .alloc 24)
    (e158 : F.eval (.tmp 158) = .slice P1 a.length c1) (e160 : F.eval (.tmp 160) = .agg (ndc n).toArray) (hsz : F.tmps.size = 180)
    (hA : Lies w0 (fun k => k < w0.heap.size) (.slice P1 a.length c1) a) (ha0 : 1 ≤ a.length) (ha1 : a.length ≤ 1000) (hS : ∀ w, Qt w0 w → S w)
    (hne : ∀ listed ∈ Ls, leftL listed ≠ 0 → Region.ready md ops listed ≠ [])
    (hrdy : ∀ listed ∈ Ls, leftL listed ≠ 0 → ∀ i ∈ Region.ready md ops listed, i ∈ [0, 3, 5, 6, 7, 8] ∧ listed.setIfInBounds i true ∈ Ls ∧ leftL (listed.setIfInBounds i true) + 1 = leftL listed ∧ listed[i]? = some false ∧
      (i = 3 → listed[0]? = some true) ∧ (i = 6 → listed[3]? = some true ∧ listed[5]? = some true ∧ listed[7]? = some false) ∧ (i = 7 → listed[6]? = some true))
    (hend : ∀ listed ∈ Ls, leftL listed = 0 → listed = LE) (hLE : LE[7]? = some true ∧ LE[8]? = some true) (hLB : LB ∈ Ls ∧ leftL LB = 6) (hLB0 : ∀ i ∈ [0, 3, 5, 6, 7, 8], LB[i]? = some false)
    (hz : ∀ f w, Lg F w0 a n LE f w → wpAnyH Try.prog md ops Q S kf LE f w) :
    wpAnyH Try.prog md ops Q S (6 + kf) LB F w0 := by
  obtain ⟨i0, z0, hi0, hz0, hz1, hz2, hz3⟩ := infoNd
  refine wpAnyH_inv (fun listed f w => listed ∈ Ls ∧ Lg F w0 a n listed f w) leftL kf ?_ ?_ 6 LB F w0 ⟨hLB.1, ?_⟩ hLB.2
  · rintro listed f w ⟨h1, h2⟩ h3
    obtain rfl := hend listed h1 h3
    exact hz f w h2
  · rintro listed f w m ⟨h1, h2⟩ h3
    refine ⟨hne listed h1 (by omega), fun i hi => ?_⟩
    obtain ⟨k1, k2, k3, k4, k5, k6, k7⟩ := hrdy listed h1 (by omega) i hi
    have hleft : leftL (listed.setIfInBounds i true) = m := by omega
    have fin : ∀ (f' : Act) (w' : World), Lg F w0 a n (listed.setIfInBounds i true) f' w' → S w' ∧ (listed.setIfInBounds i true ∈ Ls ∧ Lg F w0 a n (listed.setIfInBounds i true) f' w') ∧ leftL (listed.setIfInBounds i true) = m := fun f' w' hl => ⟨hS w' hl.q, ⟨k2, hl⟩, hleft⟩
    have hb0 : w0.heap.size ≤ w.heap.size := h2.q.size
    clear h3 hi hrdy hne hend hLE hLB hLB0 hz hleft k2 k3
    simp only [List.mem_cons, List.not_mem_nil, or_false] at k1
    rcases k1 with rfl | rfl | rfl | rfl | rfl | rfl
    · obtain ⟨g1, g2, g3, g4⟩ := g0
      refine manyT (oi := o0) g1 (wantedT g2) ?_
      refine wpRun (v := .slice (some ⟨w.heap.size, 0, none⟩) 0 0) (w' := w.alloc (.cells #[] 32)) (bsT g4 (vals := #[]) (by simp) (by go_simp)) ?_
      rw [g3]
      exact fin _ _ (h2.putQ 0 156 _ (by omega) k4 ((Qt.refl w).alloc _) (by omega) (fun _ => ⟨_, rfl⟩) (fun e => by omega) (fun e => by omega) (fun e => by omega) (fun e => by omega))
    · obtain ⟨q1, q2, q3, q4⟩ := g3
      obtain ⟨g, hg⟩ := h2.f0 (k5 rfl)
      refine manyT (oi := o3) q1 (wantedT q2) ?_
      have e1 : f.eval (.tmp 158) = .slice P1 a.length c1 := (h2.oth 158 (by decide) (by decide) (by decide) (by decide) (by decide) (by decide)).trans e158
      obtain ⟨v', w', hr, ho, hq⟩ := run_appE (w := w) (P := Try.prog) w0.heap.size 22 22 o3.type 32 i0 z0 5 48 (by kernel_rfl) hi0 hz0 hz1 hz2 hz3 ⟨g, 0, none⟩ (.slice P1 a.length c1) a.length (ndcs a) (Src.ofRd (e' := 32) (by kernel_rfl) ((hA.up h2.q).rd) (ndcs_len a) (by decide) (ndcs_one a)) (by omega) (by unfold maxLen; omega) (by omega) hb0
      refine wpRun (v := v') (w' := w') ?_ ?_
      · simp [execOp, q4, resolve, invoke, builtin, hg, e1, hr, Result.andThen]
      · rw [q3]
        obtain ⟨A, c, rfl⟩ := ho.slice
        exact fin _ _ (h2.putQ 3 159 _ (by omega) k4 hq (by omega) (fun e => by omega) (fun _ => ⟨A, c, rfl, ho⟩) (fun e => by omega) (fun e => by omega) (fun e => by omega))
    · obtain ⟨q1, q2, q3, q4⟩ := g5
      have e1 : f.eval (.tmp 160) = .agg (ndc n).toArray := (h2.oth 160 (by decide) (by decide) (by decide) (by decide) (by decide) (by decide)).trans e160
      refine manyT (oi := o5) q1 (wantedT q2) ?_
      refine wpRun (v := .slice (some ⟨w.heap.size, 0, none⟩) 1 1) (w' := w.alloc (.cells (ndc n).toArray 32)) (bsT q4 (vals := #[(0, .agg (ndc n).toArray)]) (by simp only [List.map_toArray, List.map_cons, List.map_nil, e1]) ?_) ?_
      · exact bsNd w n
      · rw [q3]
        exact fin _ _ (h2.putQ 5 161 _ (by omega) k4 ((Qt.refl w).alloc _) (by omega) (fun e => by omega) (fun e => by omega) (fun _ => ⟨_, rfl, heap_alloc_new w _⟩) (fun e => by omega) (fun e => by omega))
    · obtain ⟨q1, q2, q3, q4⟩ := g6
      obtain ⟨j3, j5, j7⟩ := k6 rfl
      obtain ⟨A, c, e1, ho⟩ := h2.f3 j3 k4
      obtain ⟨g, e2, hb⟩ := h2.f5 j5 k4
      refine manyT (oi := o6) q1 (wantedT q2) ?_
      obtain ⟨v', w', hr, ho', hgr, hv'⟩ := run_appQ (P := Try.prog) (w := w) w0.heap.size 22 22 o6.type 32 i0 z0 5 48 (by kernel_rfl) hi0 hz0 hz1 hz2 hz3 _ a.length (ndcs a) ho (.slice (some ⟨g, 0, none⟩) 1 1) 1 (ndc n) (Src.ofRd (e' := 32) (by kernel_rfl) ⟨_, _, rfl, Nat.le_refl _, .inr ⟨g, 0, rfl, fun j u hu => by rw [Nat.zero_add, hb.cell]; exact hu⟩⟩ (by rw [ndc_len]) (by decide) (fun u hu => ndc_one n u hu)) (by unfold maxLen; omega) (by omega) hb0
      have hq : Qt w0 w' := below_app (base := w0.heap.size) h2.q ho hgr
      refine wpRun (v := v') (w' := w') ?_ ?_
      · simp [execOp, q4, resolve, invoke, builtin, e1, e2, hr, Result.andThen]
      · rw [q3]
        obtain ⟨A', c', rfl⟩ := ho'.slice
        rw [← ndcs_snoc] at ho'
        refine fin _ _ (h2.put 6 162 _ (by omega) k4 hq (fun g8 hb8 => ?_) (fun e => absurd rfl e) (fun e => absurd rfl e) (fun _ => j7) (fun e => by omega) (fun e => by omega) (fun e => by omega) (fun _ => ⟨A', c', rfl, ho'⟩) (fun e => by omega) (fun e => by omega))
        refine hb8.grown hgr (fun e => ?_)
        obtain ⟨_, ⟨e3, h0⟩ | ⟨gg, off, cap, e3, _, _, _, _, _, hx⟩⟩ := ho
        · omega
        · cases e3
          simp only [Value.ownBlock] at e
          cases e
          obtain ⟨m1, r, rfl⟩ : ∃ m1 r, a = m1 :: r := by
            cases a with
            | nil => simp at ha0
            | cons m1 r => exact ⟨m1, r, rfl⟩
          have h1 := hx 0 (.int .i64 m1.f0) rfl
          rw [hb8.cell] at h1
          rcases off with _ | off
          · simp at h1
          · simp at h1
    · obtain ⟨q1, q2, q3, q4⟩ := g7
      obtain ⟨A, c, e1, ho⟩ := h2.f6 (k7 rfl)
      refine manyT (oi := o7) q1 (wantedT q2) ?_
      refine wpRun (v := .agg #[.slice A (a.length + 1) c]) (w' := w) (bdT q4 (vals := #[(0, .slice A (a.length + 1) c)]) (by simp only [List.map_toArray, List.map_cons, List.map_nil, e1]) (by kernel_rfl) w) ?_
      rw [q3]
      exact fin _ _ (h2.putQ 7 163 _ (by omega) k4 (Qt.refl w) (by omega) (fun e => by omega) (fun e => by omega) (fun e => by omega) (fun _ => ⟨A, c, rfl, ho⟩) (fun e => by omega))
    · obtain ⟨q1, q2, q3, q4⟩ := g8
      refine manyT (oi := o8) q1 (wantedT q2) ?_
      refine wpAl q4 [.slice none 0 0] (fun w => by go_simp) ?_
      intro g w' qa sa ba
      rw [q3]
      exact fin _ _ (h2.putQ 8 18 _ (by omega) k4 qa (by omega) (fun e => by omega) (fun e => by omega) (fun e => by omega) (fun e => by omega) (fun _ => ⟨g, rfl, by omega, ba⟩))
  · have hno : ∀ {i : Nat}, i ∈ [0, 3, 5, 6, 7, 8] → LB[i]? = some true → False := fun hi h => by rw [hLB0 _ hi] at h; cases h
    exact ⟨hsz, rfl, fun _ _ _ _ _ _ _ => rfl, Qt.refl w0, fun h => (hno (by simp) h).elim, fun h => (hno (by simp) h).elim, fun h => (hno (by simp) h).elim, fun h => (hno (by simp) h).elim, fun h => (hno (by simp) h).elim, fun h => (hno (by simp) h).elim⟩
end Go.Proofs.Ytipgpnkdgofdeaa.Tm
