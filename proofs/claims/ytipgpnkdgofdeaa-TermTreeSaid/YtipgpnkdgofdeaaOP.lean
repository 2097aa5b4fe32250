import Derived.Test.YtipgpnkdgofdeaaQA
import Derived.Test.YtipgpnkdgofdeaaPQ
import Derived.Deep.Slices
import Derived.SizedLaws
import Derived.OpenShut
import Derived.WalkKit
/-! Nodes and terms that come in, read. -/
namespace Go.Proofs.Ytipgpnkdgofdeaa.Tm
open Go.RowKit Go.Deep Go.ChangeShapes Go.WideShapes Go.Proofs.Ytipgpnkdgofdeaa.Fl
set_option linter.unusedVariables false
set_option linter.unusedSimpArgs false

theorem addr_plainT {w : World} {a : Addr} {v : Value} (h : w.cell? (a.add 0) = some v) : ∃ b off, a = ⟨b, off, none⟩ := by
  obtain ⟨b, off, sp⟩ := a
  cases sp with
  | none => exact ⟨b, off, rfl⟩
  | some s =>
    exfalso
    rw [show (⟨b, off, some s⟩ : Addr).add 0 = ⟨b, off, some s⟩ from rfl] at h
    unfold World.cell? at h
    split at h
    · simp at h
    · cases h
theorem wd_wf {n : Int} (h : (Lit.int .u64 n).wf = true) : Wd n := by
  simp [Lit.wf, IntKind.min, IntKind.max, IntKind.signed, IntKind.bits] at h
  exact ⟨by omega, by omega⟩
section
variable {H : Type} {enc : TypeId × Value → H} {P : Program}
theorem weights_partT {t : TypeId} {fs : Array Field} (hs : P.underlying t = some (.struct fs)) {parts : List (DataW H)} {j : Nat} {f : Field} {d : DataW H} (hf : fs[j]? = some f) (hd : parts[j]? = some d) : ∀ n ∈ d.weights P f.type, n ∈ (DataW.agg parts).weights P t := by
  intro n hn
  simp only [DataW.weights, hs]
  exact DataW.weights_mem_each (j := j) (t := f.type) (by rw [List.getElem?_map]; simp [hf]) hd n hn
theorem weights_allT {e : TypeId} {ds : List (DataW H)} {d : DataW H} (hd : d ∈ ds) : ∀ n ∈ d.weights P e, n ∈ DataW.weightsAll P e ds := by
  intro n hn
  induction ds with
  | nil => cases hd
  | cons a r ih =>
    unfold DataW.weightsAll
    rw [List.mem_append]
    rcases List.mem_cons.1 hd with rfl | h
    · exact .inl hn
    · exact .inr (ih h)
end
theorem field_atT {fs : Array Field} {l : List (TypeId × Nat)} (h : (fs.toList.map fun f => (f.type, f.offset)) = l) {j : Nat} {t : TypeId} {o : Nat} (hj : l[j]? = some (t, o)) : ∃ f, fs[j]? = some f ∧ f.type = t ∧ f.offset = o := by
  rw [← h, List.getElem?_map] at hj
  cases hf : fs.toList[j]? with
  | none => rw [hf] at hj; cases hj
  | some f => rw [hf] at hj; cases hj; exact ⟨f, by simpa using hf, rfl, rfl⟩
section
variable {H : Type} {enc : TypeId × Value → H} {w : World} {held : Bool}
/-- A node's cells. -/
theorem open_nd_cs {fuel : Nat} {cs : List Value} {x : DataW H × List MemPlace} (h : DataW.trod enc Try.prog w 0 (fun _ => true) held fuel 32 cs = some x) (hw : ∀ n ∈ x.1.weights Try.prog 32, n ≤ 140737488351232) :
    ∃ n : Nd, cs = ndc n ∧ Wd n.f2 ∧ n.f3.size ≤ 140737488351232 := by
  obtain ⟨fs, hfs⟩ : ∃ fs, Try.prog.underlying 32 = some (.struct fs) := ⟨_, Try.underlying32⟩
  have hfl : (match Try.prog.underlying 32 with | some (.struct fs) => (fs.toList.map fun f => (f.type, f.offset)) | _ => []) = [(29, 0), (2, 1), (30, 2), (9, 3), (3, 4)] := by kernel_rfl
  rw [hfs] at hfl
  obtain ⟨ys, n, _, rfl, hlen, hyl, hf⟩ := DataW.trod_struct hfs h
  have hcl : cs.length = 5 := hlen.trans (by kernel_rfl)
  have c0 : Try.prog.cellsOf 29 = 1 := by kernel_rfl
  have c1 : Try.prog.cellsOf 2 = 1 := by kernel_rfl
  have c2 : Try.prog.cellsOf 30 = 1 := by kernel_rfl
  have c3 : Try.prog.cellsOf 9 = 1 := by kernel_rfl
  have c4 : Try.prog.cellsOf 3 = 1 := by kernel_rfl
  obtain ⟨f0, g0, t0, o0⟩ := field_atT hfl (j := 0) rfl
  obtain ⟨f1, g1, t1, o1⟩ := field_atT hfl (j := 1) rfl
  obtain ⟨f2, g2, t2, o2⟩ := field_atT hfl (j := 2) rfl
  obtain ⟨f3, g3, t3, o3⟩ := field_atT hfl (j := 3) rfl
  obtain ⟨f4, g4, t4, o4⟩ := field_atT hfl (j := 4) rfl
  have hsz : fs.size = 5 := by have := congrArg List.length hfl; simpa using this
  have hy : ∀ j, j < 5 → ∃ y, ys[j]? = some y := fun j hj => ⟨_, List.getElem?_eq_getElem (by omega)⟩
  obtain ⟨y0, e0⟩ := hy 0 (by omega)
  obtain ⟨y1, e1⟩ := hy 1 (by omega)
  obtain ⟨y2, e2⟩ := hy 2 (by omega)
  obtain ⟨y3, e3⟩ := hy 3 (by omega)
  obtain ⟨y4, e4⟩ := hy 4 (by omega)
  have k0 := hf 0 f0 g0
  have k1 := hf 1 f1 g1
  have k2 := hf 2 f2 g2
  have k3 := hf 3 f3 g3
  have k4 := hf 4 f4 g4
  rw [t0, o0, c0, e0] at k0
  rw [t1, o1, c1, e1] at k1
  rw [t2, o2, c2, e2] at k2
  rw [t3, o3, c3, e3] at k3
  rw [t4, o4, c4, e4] at k4
  obtain ⟨z0, d0, _, w0⟩ := DataW.trod_int (by kernel_rfl : Try.prog.underlying 29 = some (.int .i64)) k0
  obtain ⟨z1, d1, _, w1⟩ := DataW.trod_int (by kernel_rfl : Try.prog.underlying 2 = some (.int .i64)) k1
  obtain ⟨z2, d2, _, w2⟩ := DataW.trod_int (by kernel_rfl : Try.prog.underlying 30 = some (.int .u64)) k2
  obtain ⟨s, d3, hx3, _⟩ := DataW.trod_string (by kernel_rfl : Try.prog.underlying 9 = some .string) k3
  obtain ⟨z4, d4, _, w4⟩ := DataW.trod_int (by kernel_rfl : Try.prog.underlying 3 = some (.int .i64)) k4
  refine ⟨⟨z0, z1, z2, s, z4⟩, ?_, wd_wf w2, ?_⟩
  · have hcs : cs = cs.take 1 ++ ((cs.drop 1).take 1 ++ ((cs.drop 2).take 1 ++ ((cs.drop 3).take 1 ++ (cs.drop 4).take 1))) := by
      have t0 : (cs.drop 4).take 1 = cs.drop 4 := List.take_of_length_le (by rw [List.length_drop]; omega)
      have st : ∀ a b, (cs.drop a).take b ++ cs.drop (a + b) = cs.drop a := fun a b => by rw [← List.drop_drop, List.take_append_drop]
      rw [t0, st 3 1, st 2 1, st 1 1, List.take_append_drop]
    rw [hcs]
    have q0 : cs.take 1 = [.int .i64 z0] := by simpa using d0
    rw [q0, d1, d2, d3, d4]
    rfl
  · have := hw s.size (weights_partT hfs g3 (by rw [List.getElem?_map, e3]; rfl) _ (by
      show s.size ∈ y3.1.weights _ _
      rw [t3, hx3]; simp only [DataW.weights, List.mem_singleton]; rw [Array.length_toList]; rfl))
    exact this
/-- A term that came in. -/
theorem open_term {ts : List TypeId} {ds : List (DataW H)} {j : Nat} {v : Value} {d : DataW H} {ps : List MemPlace} {r : Reach} {b0 : Nat} (hval : Value.okWide Try.prog w r b0 24 v)
    (hsz : (DataW.weightsEach Try.prog ts ds).all (· ≤ reachBytes) = true) (htj : ts[j]? = some 24) (hdj : ds[j]? = some d) (h : DataW.Trod enc Try.prog w 0 (fun _ => true) held 24 v d ps) :
    ∃ (l : List Nd) (u : Value), v = .agg #[u] ∧ Lies w (fun k => k < w.heap.size) u l ∧ l.length ≤ 140737488351232 ∧ SzL l ∧ WfL l := by
  obtain ⟨fs, hfs⟩ : ∃ fs, Try.prog.underlying 24 = some (.struct fs) := ⟨_, Try.underlying24⟩
  obtain ⟨ca, rfl, hca⟩ := okWide_struct hfs hval
  have hfl : (match Try.prog.underlying 24 with | some (.struct fs) => (fs.toList.map fun f => (f.type, f.offset)) | _ => []) = [(22, 0)] := by kernel_rfl
  rw [hfs] at hfl
  have hr : reachBytes = 140737488351232 := by decide
  have hall0 : ∀ n ∈ d.weights Try.prog 24, n ≤ 140737488351232 := fun n hn => by
    have := List.all_eq_true.1 hsz _ (DataW.weights_mem_each htj hdj n hn)
    rw [hr] at this
    simpa using this
  obtain ⟨fuel, hf0⟩ := h
  obtain ⟨ys, n, _, hx0, hlen, hyl, hf⟩ := DataW.trod_struct hfs hf0
  have ct : Try.prog.cellsOf 22 = 1 := by kernel_rfl
  obtain ⟨f0, g0, t0, o0⟩ := field_atT hfl (j := 0) rfl
  have hsz1 : fs.size = 1 := by have := congrArg List.length hfl; simpa using this
  obtain ⟨y0, e0⟩ : ∃ y, ys[0]? = some y := ⟨_, List.getElem?_eq_getElem (by omega)⟩
  have k0 := hf 0 f0 g0
  rw [t0, o0, ct, e0] at k0
  have hc1 : ca.size = 1 := hca.trans (by kernel_rfl)
  obtain ⟨u, rfl⟩ : ∃ u, ca = #[u] := by
    rcases ca with ⟨_ | ⟨u, _ | ⟨u2, r⟩⟩⟩
    · simp at hc1
    · exact ⟨u, rfl⟩
    · simp at hc1
  have hall : ∀ n ∈ y0.1.weights Try.prog 22, n ≤ 140737488351232 := fun n hn => hall0 n (by
    have hd : d = .agg (ys.map (·.1)) := congrArg Prod.fst hx0
    rw [hd]
    exact weights_partT hfs g0 (by rw [List.getElem?_map, e0]; rfl) n (by rw [t0]; exact hn))
  have k0' : DataW.trod enc Try.prog w 0 (fun _ => true) held n 22 [u] = some y0 := k0
  have ht : Try.prog.underlying 22 = some (.slice 32) := by kernel_rfl
  have cp : Try.prog.cellsOf 32 = 5 := by kernel_rfl
  have bp : 1 ≤ Try.prog.bytesOf 32 := by decide +kernel
  rcases open_slice ht k0' with ⟨hcs, _⟩ | ⟨a, len, cap, m, n2, D, Pl, hcs, _, hl, hm, hmm, hx, hi⟩
  · cases hcs
    exact ⟨[], _, rfl, ⟨none, 0, rfl, Nat.le_refl _, fun h => absurd rfl h⟩, by simp, (fun n hn => by cases hn), (fun n hn => by cases hn)⟩
  · cases hcs
    simp at hmm
    obtain ⟨y1, y2⟩ := y0
    obtain ⟨rfl, _⟩ := Prod.mk.inj hx
    have hlen : len ≤ 140737488351232 := by
      have := hall ((((List.range len).map D).length + ((List.range (m - len)).map fun j => D (len + j)).length) * Try.prog.bytesOf 32) (by simp only [DataW.weights, ht]; exact List.mem_cons_self)
      rw [List.length_map, List.length_range] at this
      exact Nat.le_trans (Nat.le_trans (Nat.le_add_right _ _) (Nat.le_mul_of_pos_right _ bp)) this
    have hb : ∀ i, i < len → ∃ z : Nd, (Wd z.f2 ∧ z.f3.size ≤ 140737488351232) ∧ ∀ k u, (ndc z)[k]? = some u → w.cell? ((a.add (i * 5)).add k) = some u := fun i hi' => by
      obtain ⟨cs', h1, h2⟩ := hi i (by omega)
      rw [cp] at h1
      obtain ⟨z, rfl, hw1, hw2⟩ := open_nd_cs h2 (fun n hn => hall n (by
        simp only [DataW.weights, ht]
        exact List.mem_cons_of_mem _ (List.mem_append_left _ (weights_allT (List.mem_map.2 ⟨i, by simpa using hi', rfl⟩) n hn))))
      obtain ⟨_, _, h3⟩ := World.cells?_some h1
      exact ⟨z, ⟨hw1, hw2⟩, fun k u hu => (h3 k (by have := (List.getElem?_eq_some_iff.1 hu).1; simpa [ndc] using this)).trans hu⟩
    haveI : Inhabited Nd := ⟨⟨0, 0, 0, ⟨#[]⟩, 0⟩⟩
    obtain ⟨L, hL⟩ := choose_lt hb
    have el : ((List.range len).map L).length = len := by simp
    refine ⟨(List.range len).map L, _, rfl, ⟨some a, cap, by rw [el], by rw [el]; exact hl, fun h0 => ?_⟩, by rw [el]; exact hlen, fun x hx => ?_, fun x hx => ?_⟩
    · have hp : 0 < len := by have := List.length_pos_iff.2 h0; rwa [el] at this
      obtain ⟨b, off, rfl⟩ : ∃ b off, a = ⟨b, off, none⟩ := addr_plainT ((hL 0 hp).2 0 _ rfl)
      have hcell : ∀ j u, (ndcs ((List.range len).map L))[j]? = some u → w.cell? ⟨b, off + j, none⟩ = some u := fun j u hu => by
        have hj := (List.getElem?_eq_some_iff.1 hu).1
        rw [ndcs_len, el] at hj
        have hq : j / 5 < len := by omega
        have e1 : ((List.range len).map L)[j / 5]? = some (L (j / 5)) := by rw [List.getElem?_map, List.getElem?_range hq]; rfl
        obtain ⟨u', hu'⟩ : ∃ u', (ndc (L (j / 5)))[j % 5]? = some u' := ⟨_, List.getElem?_eq_getElem (by rw [ndc_len]; omega)⟩
        have e2 := ndcs_get _ _ _ e1 _ _ hu'
        rw [show j / 5 * 5 + j % 5 = j from by omega, hu] at e2
        cases e2
        have := (hL (j / 5) hq).2 _ _ hu'
        rw [add_plain, add_plain, Nat.add_assoc, show j / 5 * 5 + j % 5 = j from by omega] at this
        exact this
      exact ⟨b, off, rfl, blk_of_cell ((hcell 0 _ (List.getElem?_eq_getElem (by rw [ndcs_len, el]; omega)))), hcell⟩
    · obtain ⟨i, hi', rfl⟩ := List.mem_map.1 hx
      exact (hL i (by simpa using hi')).1.2
    · obtain ⟨i, hi', rfl⟩ := List.mem_map.1 hx
      exact (hL i (by simpa using hi')).1.1
/-- A node that came in. -/
theorem open_nd {ts : List TypeId} {ds : List (DataW H)} {j : Nat} {v : Value} {d : DataW H} {ps : List MemPlace} {r : Reach} {b0 : Nat} (hval : Value.okWide Try.prog w r b0 32 v)
    (hsz : (DataW.weightsEach Try.prog ts ds).all (· ≤ reachBytes) = true) (htj : ts[j]? = some 32) (hdj : ds[j]? = some d) (h : DataW.Trod enc Try.prog w 0 (fun _ => true) held 32 v d ps) :
    ∃ n : Nd, v = .agg (ndc n).toArray ∧ Wd n.f2 ∧ n.f3.size ≤ 140737488351232 := by
  obtain ⟨fs, hfs⟩ : ∃ fs, Try.prog.underlying 32 = some (.struct fs) := ⟨_, Try.underlying32⟩
  obtain ⟨ca, rfl, hca⟩ := okWide_struct hfs hval
  have hr : reachBytes = 140737488351232 := by decide
  have hall0 : ∀ n ∈ d.weights Try.prog 32, n ≤ 140737488351232 := fun n hn => by
    have := List.all_eq_true.1 hsz _ (DataW.weights_mem_each htj hdj n hn)
    rw [hr] at this
    simpa using this
  obtain ⟨fuel, hf0⟩ := h
  obtain ⟨n, e1, h1, h2⟩ := open_nd_cs hf0 hall0
  have e1' : ca.toList = ndc n := e1
  exact ⟨n, by rw [← e1'], h1, h2⟩
end
end Go.Proofs.Ytipgpnkdgofdeaa.Tm
