import Derived.Test.YtipgpnkdgofdeaaTW
import Derived.Great.BuildSlice
/-! Rows that are sliced; words of branches. -/
namespace Go.Proofs.Ytipgpnkdgofdeaa.Tm
open Go.RowKit
set_option linter.unusedVariables false
set_option linter.unusedSimpArgs false

theorem Lies.tail {w : World} {ok : Nat → Prop} {A : Option Addr} {c : Nat} {n : Nd} {l : List Nd} (h : Lies w ok (.slice A (n :: l).length c) (n :: l)) : Lies w ok (sliced A 1 (l.length + 1) c 5) l := by
  obtain ⟨A', c', e, hc, h⟩ := h
  cases e
  obtain ⟨b, off, rfl, hb, hx⟩ := h (by simp)
  simp only [List.length_cons] at hc
  refine ⟨_, c - 1, by unfold sliced; rw [Nat.add_sub_cancel], by omega, fun h0 => ?_⟩
  have hl : 0 < l.length := List.length_pos_iff.2 h0
  refine ⟨b, off + 5, by rw [if_neg (by omega)]; simp [Addr.add], hb, fun j u hu => ?_⟩
  have := hx (5 + j) u (by rw [ndcs_cons, List.getElem?_append_right (by rw [ndc_len]; omega), ndc_len, show 5 + j - 5 = j from by omega]; exact hu)
  rw [← Nat.add_assoc] at this; exact this
theorem Lies.take {w : World} {ok : Nat → Prop} {A : Option Addr} {c : Nat} {l a r : List Nd} (h : Lies w ok (.slice A l.length c) l) (hl : l = a ++ r) : Lies w ok (sliced A 0 a.length c 5) a := by
  obtain ⟨A', c', e, hc, h⟩ := h
  cases e
  have hal : a.length ≤ l.length := by rw [hl]; simp
  refine ⟨_, c, by unfold sliced; rw [Nat.sub_zero, Nat.sub_zero], by omega, fun h0 => ?_⟩
  have ha : 0 < a.length := List.length_pos_iff.2 h0
  obtain ⟨b, off, rfl, hb, hx⟩ := h (by intro e; rw [e] at hal; simp at hal; exact h0 hal)
  refine ⟨b, off, by rw [if_neg (by omega)]; simp [Addr.add], hb, fun j u hu => hx j u ?_⟩
  rw [hl, ndcs_app, List.getElem?_append_left (List.getElem?_eq_some_iff.1 hu).1]; exact hu
theorem Lies.form {w : World} {ok : Nat → Prop} {v : Value} {l : List Nd} (h : Lies w ok v l) : ∃ A c, v = .slice A l.length c := by
  obtain ⟨A, c, rfl, _⟩ := h; exact ⟨A, c, rfl⟩
theorem Lies.first {w : World} {ok : Nat → Prop} {A : Option Addr} {c m : Nat} {n : Nd} {l : List Nd} (h : Lies w ok (.slice A m c) (n :: l)) :
    ∃ b off, A = some ⟨b, off, none⟩ ∧ ok b ∧ l.length + 1 ≤ c ∧ w.rangeAt b off (ndc n) := by
  obtain ⟨A', c', e, hc, h⟩ := h
  cases e
  obtain ⟨b, off, rfl, hb, hx⟩ := h (by simp)
  refine ⟨b, off, rfl, hb, by simpa using hc, fun j u hu => hx j u ?_⟩
  rw [ndcs_cons, List.getElem?_append_left (List.getElem?_eq_some_iff.1 hu).1]; exact hu
section
variable {P : Program} {ops : Array Oper} {rest : List Oper} {o : Oper} {a : Act} {w : World} {Q : Exit → Act → World → Prop}
theorem slT {t : TypeId} {x y : Operand} {A : Option Addr} {n c s : Nat} {k : IntKind} {i : Int} (ho : o.op = .slice t x (some y) none none) (hx : a.eval x = .slice A n c) (hy : a.eval y = .int k i)
    (ht : P.underlying t = some (.slice (P.elem t))) (hs : ∀ w, (sizeOf (P.elem t)).run P w = .ok s w) (h0 : 0 ≤ i) (h1 : i ≤ n) (w : World) : (execOp a.eval o).run P w = .ok (.value (sliced A i.toNat n c s)) w := by
  unfold execOp
  simp only [ho, hx, hy, Option.map_some, Option.map_none, Sem.run_bind, run_sliceAt_slice w t _ _ _ _ ht, run_slice_l w t A n c ht k i h0 h1, hs, Result.andThen_ok, Sem.run_pure]
theorem armSl (hgd : o.guard = none) (t : TypeId) (x y : Operand) (ho : o.op = .slice t x none (some y) none) (A : Option Addr) (n c s : Nat) (hx : a.eval x = .slice A n c) (k : IntKind) (i : Int) (hy : a.eval y = .int k i)
    (ht : P.underlying t = some (.slice (P.elem t))) (hs : ∀ w, (sizeOf (P.elem t)).run P w = .ok s w) (h0 : 0 ≤ i) (h1 : i ≤ c) (av : Value) (hav : sliced A 0 i.toNat c s = av)
    (h : wpList P ops Q rest (a.put o.dst av) w) : wpList P ops Q (o :: rest) a w := by
  subst hav
  refine wpList_plain hgd fun K hK => wpRun ?_ (hK _ _ h)
  unfold execOp
  simp only [ho, hx, hy, Option.map_some, Option.map_none, Sem.run_bind, run_sliceAt_slice w t _ _ _ _ ht, run_slice_h w t A n c ht k i h0 h1, hs, Result.andThen_ok, Sem.run_pure]
end
/-! ### the kids that were read so far -/
theorem flatten_get (css : List (List Value)) (m : Nat) (hm : ∀ cs ∈ css, cs.length = m) : ∀ (i : Nat) (cs : List Value), css[i]? = some cs → ∀ j u, cs[j]? = some u → css.flatten[i * m + j]? = some u := by
  induction css with
  | nil => intro i cs h; cases h
  | cons c css ih =>
    intro i cs h j u hu
    have hc : c.length = m := hm c (List.mem_cons_self ..)
    rw [List.flatten_cons]
    cases i with
    | zero =>
      obtain rfl : c = cs := by simpa using h
      have hj := (List.getElem?_eq_some_iff.1 hu).1
      rw [List.getElem?_append_left (by omega)]; simpa using hu
    | succ i =>
      rw [List.getElem?_append_right (by rw [hc, Nat.succ_mul]; omega), hc, show (i + 1) * m + j - m = i * m + j from by rw [Nat.succ_mul]; omega]
      exact ih (fun cs hcs => hm cs (List.mem_cons_of_mem _ hcs)) i cs (by simpa using h) j u hu
def KidsIn (w : World) (base : Nat) (ok : Nat → Prop) (kv : Value) (ks : List Tr) : Prop :=
  ∃ css : List (List Value), css.length = ks.length ∧ (∀ cs ∈ css, cs.length = 7) ∧ OQ w base 7 kv ks.length css.flatten ∧ (∀ g, kv.ownBlock = some g → ok g) ∧
    ∀ (i : Nat) (k : Tr), ks[i]? = some k → ∃ cs, css[i]? = some cs ∧ Br w (fun b => ok b ∧ some b ≠ kv.ownBlock) cs k
theorem KidsIn.start (w : World) (base : Nat) (ok : Nat → Prop) : KidsIn w base ok (.slice none 0 0) [] :=
  ⟨[], rfl, fun _ h => (by cases h), OQ.nil w base 7, fun g h => (by cases h), fun i k h => (by cases h)⟩
theorem KidsIn.move {w w' : World} {base : Nat} {ok : Nat → Prop} {kv : Value} {ks : List Tr} (h : KidsIn w base ok kv ks) (hs : w.heap.size ≤ w'.heap.size) (hm : ∀ k, k < w.heap.size → ok k → w'.heap[k]? = w.heap[k]?) : KidsIn w' base ok kv ks := by
  obtain ⟨css, h1, h2, h3, h4, h5⟩ := h
  refine ⟨css, h1, h2, h3.keep hs fun g hg => hm g (h3.lt g hg).2 (h4 g hg), h4, fun i k hk => ?_⟩
  obtain ⟨cs, e, hb⟩ := h5 i k hk
  exact ⟨cs, e, hb.move fun k hk ho => hm k hk ho.1⟩
theorem KidsIn.qt {w w' : World} {base : Nat} {ok : Nat → Prop} {kv : Value} {ks : List Tr} (h : KidsIn w base ok kv ks) (q : Qt w w') : KidsIn w' base ok kv ks := h.move q.size fun k hk _ => q.block k hk
theorem KidsIn.og {w w' : World} {base g : Nat} {ok : Nat → Prop} {kv : Value} {ks : List Tr} (h : KidsIn w base ok kv ks) (q : Og g w w') (hg : ¬ ok g) : KidsIn w' base ok kv ks :=
  h.move q.size fun k hk ho => q.block k hk (fun e => hg (by cases e; exact ho))
theorem KidsIn.snoc {w w' : World} {base : Nat} {ok ok' : Nat → Prop} {kv kv' : Value} {ks : List Tr} {t : Tr} {css : List (List Value)} {cs : List Value}
    (h1 : css.length = ks.length) (h2 : ∀ cs ∈ css, cs.length = 7) (h4 : ∀ g, kv.ownBlock = some g → ok g)
    (h5 : ∀ (i : Nat) (k : Tr), ks[i]? = some k → ∃ cs, css[i]? = some cs ∧ Br w (fun b => ok b ∧ some b ≠ kv.ownBlock) cs k)
    (hb : Br w ok' cs t) (hok : ∀ k, k < w.heap.size → ok' k → ok k ∧ some k ≠ kv.ownBlock)
    (ho : OQ w' base 7 kv' (ks.length + 1) (css.flatten ++ cs)) (hg : w.grownBy w' kv.ownBlock) (hr : kv'.ownBlock = kv.ownBlock ∨ ∃ g, kv'.ownBlock = some g ∧ w.heap.size ≤ g)
    (hnew : ∀ g, w.heap.size ≤ g → ok g) : KidsIn w' base ok kv' (ks ++ [t]) := by
  have mv : ∀ {cs k}, Br w (fun b => ok b ∧ some b ≠ kv.ownBlock) cs k → Br w' (fun b => ok b ∧ some b ≠ kv'.ownBlock) cs k := by
    intro cs k hb
    refine (hb.bound.move (w' := w') fun k hk ho => hg.block k hk ho.1.2).mono ?_
    rintro k ⟨⟨ho, hn⟩, hk⟩
    refine ⟨ho, ?_⟩
    rcases hr with e | ⟨g, e, hge⟩
    · rw [e]; exact hn
    · rw [e]; intro e'; cases e'; omega
  refine ⟨css ++ [cs], by simp [h1], fun c hc => ?_, by simpa using ho, fun g hg' => ?_, fun i k hk => ?_⟩
  · rcases List.mem_append.1 hc with hc | hc
    · exact h2 c hc
    · rw [List.mem_singleton.1 hc]; exact hb.len
  · rcases hr with e | ⟨g2, e, hge⟩
    · exact h4 g (by rw [← e]; exact hg')
    · rw [e] at hg'; cases hg'; exact hnew _ hge
  · by_cases hi : i < ks.length
    · rw [List.getElem?_append_left hi] at hk
      obtain ⟨cs', e, hb'⟩ := h5 i k hk
      exact ⟨cs', by rw [List.getElem?_append_left (by omega)]; exact e, mv hb'⟩
    · rw [List.getElem?_append_right (by omega)] at hk
      have hi2 : i = ks.length := by
        have := (List.getElem?_eq_some_iff.1 hk).1
        simp at this; omega
      subst hi2
      obtain rfl : t = k := by simpa using hk
      refine ⟨cs, by rw [List.getElem?_append_right (by omega), h1]; simp, mv ?_⟩
      exact hb.bound.mono fun k hk => hok k hk.2 hk.1
/-- The branch. -/
theorem KidsIn.br {w : World} {base : Nat} {ok : Nat → Prop} {kv av : Value} {ks : List Tr} {n : Nd} (h : KidsIn w base ok kv ks) (ha : Lies w ok av (Tr.mk n ks).flat) : Br w ok (ndc n ++ [kv, av]) (.mk n ks) := by
  obtain ⟨css, h1, h2, h3, h4, h5⟩ := h
  obtain ⟨hl, ho⟩ := h3
  have go : ∀ (A : Option Addr) (c : Nat), kv = .slice A ks.length c → ks.length ≤ c → (ks ≠ [] → ∃ b off, A = some ⟨b, off, none⟩ ∧ ok b ∧ ∀ j u, css.flatten[j]? = some u → w.cell? ⟨b, off + j, none⟩ = some u) → Br w ok (ndc n ++ [kv, av]) (.mk n ks) := by
    rintro A c rfl hc hx
    refine .mk n ks A c av (fun i => css.getD i []) hc (fun h0 => ?_) (fun i k hk => ?_) ha
    · obtain ⟨b, off, rfl, hb, hx⟩ := hx h0
      refine ⟨b, off, rfl, hb, fun i k hk j u hu => hx _ u ?_⟩
      obtain ⟨cs, e, _⟩ := h5 i k hk
      have e2 : css.getD i [] = cs := by rw [List.getD_eq_getElem?_getD, e]; rfl
      simp only [e2] at hu
      exact flatten_get css 7 h2 i cs e j u hu
    · obtain ⟨cs, e, hb⟩ := h5 i k hk
      have e2 : css.getD i [] = cs := by rw [List.getD_eq_getElem?_getD, e]; rfl
      simp only [e2]
      exact hb.mono fun k hk => hk.1
  rcases ho with ⟨rfl, h0⟩ | ⟨g, off, cap, rfl, hb, hg, hn, hm, hc, hx⟩
  · obtain rfl : ks = [] := List.length_eq_zero_iff.1 h0
    exact go none 0 rfl (Nat.le_refl _) (fun h => absurd rfl h)
  · exact go _ cap rfl hn (fun h0 => ⟨g, off, rfl, h4 g rfl, hx⟩)

section
variable {P : Program} {ops : Array Oper} {rest : List Oper} {o : Oper} {a : Act} {w : World} {Q : Exit → Act → World → Prop} {K : Act → World → Prop}
/-- A struct is stored into a block. -/
theorem wpStM {ty : TypeId} {x y : Operand} {g off : Nat} {cells : List Value} (ho : o.op = .store ty x y) (hx : a.eval x = .pointer (some ⟨g, off, none⟩)) (hy : a.eval y = .agg cells.toArray)
    {t : TypeId} {c : List Value} (hb : Blk w g t c) (hl : off + cells.length ≤ c.length) (hi : (P.info? ty).map (·.size) = some cells.length) (h1 : ∀ u ∈ cells, u.oneCell' = true)
    (h : ∀ w', Og g w w' → w.heap.size = w'.heap.size → Blk w' g t (c.take off ++ cells ++ c.drop (off + cells.length)) → K (a.put o.dst undef) w') : o.wp P a w K Q := by
  refine wpSkip (smT ho hx hy (hb.there off _ (by simpa using hl)) (by simpa using hi) (all_oneCell_toArray h1)) ?_
  refine h _ (grown_setCells w g off cells) (by rw [size_setCells]) ?_
  exact (set_many g cells off w t c hb).resolve_right (by omega)
theorem rangeOg {w w' : World} {b off g : Nat} {cs : List Value} (h : w.rangeAt b off cs) (q : Og g w w') (hb : b ≠ g) : w'.rangeAt b off cs := fun i u hu => q.cell (h i u hu) hb
theorem rangeQt {w w' : World} {b off : Nat} {cs : List Value} (h : w.rangeAt b off cs) (q : Qt w w') : w'.rangeAt b off cs := fun i u hu => (q.cell (p := ⟨b, off + i, none⟩) (blk_of_cell (h i u hu))).trans (h i u hu)
theorem fill7 (z : Array Value) (hz : z.size = 7) (cs : List Value) (h : cs.length = 7) : Instr.fill (fun i => some (i * 7, 7)) z [(0, .agg cs.toArray)] = some cs.toArray := by
  obtain ⟨c1, c2, c3, c4, c5, c6, c7, rfl⟩ : ∃ a b c d e f g, cs = [a, b, c, d, e, f, g] := by
    match cs, h with
    | [a, b, c, d, e, f, g], _ => exact ⟨a, b, c, d, e, f, g, rfl⟩
  obtain ⟨z⟩ := z
  obtain ⟨z1, z2, z3, z4, z5, z6, z7, rfl⟩ : ∃ a b c d e f g, z = [a, b, c, d, e, f, g] := by
    match z, hz with
    | [a, b, c, d, e, f, g], _ => exact ⟨a, b, c, d, e, f, g, rfl⟩
  kernel_rfl
theorem armBs (hgd : o.guard = none) (t e : TypeId) (x : Operand) (ho : o.op = .buildSlice t 1 #[(0, x)]) (cs : List Value) (hx : a.eval x = .agg cs.toArray) (hcs : cs.length = 7)
    (hu : P.underlying t = some (.slice e)) (i : TypeInfo) (hi : P.info? e = some i) (z : Value) (hz : i.zero = some z) (hs : i.size = 7)
    (h : ∀ w', w' = w.alloc (.cells cs.toArray e) → wpList P ops Q rest (a.put o.dst (.slice (some ⟨w.heap.size, 0, none⟩) 1 1)) w') : wpList P ops Q (o :: rest) a w := by
  refine wpList_buildSlice hgd t e 1 _ ho cs.toArray i z hu hi hz (by rw [hs]; decide) (by rw [hs]; decide) ?_ (h _ rfl)
  rw [hs]
  simp only [List.map_toArray, List.map_cons, List.map_nil, hx]
  exact fill7 _ (by simp) cs hcs
end
theorem rdBr {w w' : World} {cs : List Value} {e : TypeId} (hw : w' = w.alloc (.cells cs.toArray e)) : Rd w' (.slice (some ⟨w.heap.size, 0, none⟩) 1 1) 1 cs := by
  subst hw
  exact ⟨_, _, rfl, Nat.le_refl _, .inr ⟨_, _, rfl, fun j u hu => by rw [World.cell?_alloc_new, Nat.zero_add]; simpa using hu⟩⟩
theorem results_ct {P : Program} {fn : Func} {p q : Tmp} {ty : TypeId} (h : fn.results = #[.cell p ty, .tmp q]) (tmps : Array Value) (w : World) (g : Nat) {t : TypeId} {cs : List Value} (d : TypeDesc)
    (hp : tmps.getD p undef = .pointer (some ⟨g, 0, none⟩)) (hg : Blk w g t cs) (rv : Value) (hq : tmps.getD q undef = rv)
    (hu : P.underlying ty = some d) (hd : (match d with | .struct _ | .array _ _ => true | _ => false) = true) (hi : (P.info? ty).map (·.size) = some cs.length) :
    (results fn tmps).run P w = .ok (.tuple #[.agg cs.toArray, rv]) w := by
  have hp' : tmps[p]?.getD undef = .pointer (some ⟨g, 0, none⟩) := by simpa using hp
  have hq' : tmps[q]?.getD undef = rv := by simpa using hq
  simp [results, h, hp', hq', asAddr, run_loadVar_row w g t ty cs.toArray (0, 0) d hg hu hd (by simpa using hi)]
theorem szBr : ∀ w, (sizeOf (Try.prog.elem 22)).run Try.prog w = .ok 5 w := fun w => by kernel_rfl
theorem mkNone (w : World) : (Instr.makeInterface 82 (.agg #[])).run Try.prog w = .ok (.iface 82 (.agg #[])) w := run_makeInterface w _ _ (by kernel_rfl)
end Go.Proofs.Ytipgpnkdgofdeaa.Tm
