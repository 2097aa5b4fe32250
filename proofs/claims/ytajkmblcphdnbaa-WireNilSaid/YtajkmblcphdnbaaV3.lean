import Derived.Test.YtajkmblcphdnbaaVU
/-! WireNil: printed by gennil.py. -/
namespace Go.Proofs.Ytajkmblcphdnbaa
open Go.RowKit Go.WideShapes
set_option linter.unusedVariables false
set_option linter.unusedSimpArgs false

/-- What an ask of a spoilt reader, or of none, tells. -/
theorem toldX_none (x : PutD) (m : RM) (hm : ∀ a, m ≠ .live a) : toldX x m none = toldC 0 0 Z32 (str []) false 0 1 false := by
  have h1 : errX m none = 1 := by
    cases m with
    | live a => exact absurd rfl (hm a)
    | nil => rfl
    | raw a => rfl
  unfold toldX
  rw [nextK_none, h1]
  unfold toldK
  split <;> rfl
theorem blk_range {w : World} {g : Nat} {t : TypeId} {c : List Value} (h : Blk w g t c) : w.rangeAt g 0 c := fun j v hv => by
  rw [Nat.zero_add, h.cell]; exact hv
theorem open_put_v {H : Type} {enc : TypeId × Value → H} {w : World} {held : Bool} {ts : List TypeId} {ds : List (DataW H)} {j : Nat} {cs : Array Value} {d : DataW H} {ps : List MemPlace}
    (hsz : (DataW.weightsEach Try.prog ts ds).all (· ≤ reachBytes) = true) (htj : ts[j]? = some 39) (hdj : ds[j]? = some d) (h : DataW.Trod enc Try.prog w 0 (fun _ => true) held 39 (.agg cs) d ps) :
    ∃ (y : PutD) (bv : Value), cs = (putC y bv).toArray ∧ y.Ok ∧ Rd w bv y.b.length (u8s y.b) := by
  have hr : reachBytes = 140737488351232 := by decide
  have hall : ∀ n ∈ d.weights Try.prog 39, n ≤ 140737488351232 := fun n hn => by
    have := List.all_eq_true.1 hsz _ (DataW.weights_mem_each htj hdj n hn)
    rw [hr] at this
    simpa using this
  obtain ⟨fuel, hf⟩ := h
  obtain ⟨y, bv, h1, h2, h3⟩ := open_put_cs hf hall
  refine ⟨y, bv, ?_, h2, h3⟩
  rw [← h1]
  simp [Value.cells]
theorem alRun (ρ : Operand → Value) (o : Oper) (ho : o.op = .alloc 36) (w : World) : (execOp ρ o).run Try.prog w = .ok (.value (.pointer (some ⟨w.heap.size, 0, none⟩))) (w.alloc (.cells toldZ.toArray 36)) := by
  unfold execOp
  simp only [ho]
  go_simp
  rfl
theorem wpList_want {P : Program} {ops : Array Oper} {rest : List Oper} {o : Oper} {a : Act} {w : World} {Q : Exit → Act → World → Prop} (hw : Region.wanted o (yielded ops a.tmps) = true)
    (h : ∀ K : Act → World → Prop, (∀ a w, wpList P ops Q rest a w → K a w) → o.wp P a w K Q) : wpList P ops Q (o :: rest) a w := by
  rw [wpList, if_pos hw]
  exact .inl (h _ fun _ _ h => h)
/-- A row is loaded; a struct is built: where a guard lets it. -/
theorem wpList_load_rowG {P : Program} {ops : Array Oper} {rest : List Oper} {o : Oper} {a : Act} {w : World} {Q : Exit → Act → World → Prop} (ty : TypeId) (x : Operand) (ho : o.op = .load ty x)
    (g : Nat) (hx : a.eval x = .pointer (some ⟨g, 0, none⟩)) (t : TypeId) (cs : Array Value) (d : TypeDesc) (hg : w.heap[g]? = some (.cells cs t (0, 0)))
    (hu : P.underlying ty = some d) (hd : (match d with | .struct _ | .array _ _ => true | _ => false) = true) (hi : (P.info? ty).map (·.size) = some cs.size) (hw : Region.wanted o (yielded ops a.tmps) = true)
    (h : wpList P ops Q rest (a.put o.dst (.agg cs)) w) : wpList P ops Q (o :: rest) a w :=
  wpList_want hw fun _ hK => wp_load_row ty x ho g hx t cs (0, 0) d hg hu hd hi (hK _ _ h)
theorem wpList_valG {P : Program} {ops : Array Oper} {rest : List Oper} {o : Oper} {a : Act} {w : World} {Q : Exit → Act → World → Prop} (v : Value) (hrun : (execOp a.eval o).run P w = .ok (.value v) w) (hw : Region.wanted o (yielded ops a.tmps) = true)
    (h : wpList P ops Q rest (a.put o.dst v) w) : wpList P ops Q (o :: rest) a w :=
  wpList_want hw fun _ hK => by unfold Oper.wp; rw [hrun, Oper.upon_value]; exact hK _ _ h
theorem wpList_buildG {P : Program} {ops : Array Oper} {rest : List Oper} {o : Oper} {a : Act} {w : World} {Q : Exit → Act → World → Prop} (t : TypeId) (parts : Array (Nat × Operand)) (ho : o.op = .build t parts) (cs : Array Value)
    (hf : P.built t (parts.map fun (i, x) => (i, a.eval x)).toList = some cs) (hw : Region.wanted o (yielded ops a.tmps) = true)
    (h : wpList P ops Q rest (a.put o.dst (.agg cs)) w) : wpList P ops Q (o :: rest) a w :=
  wpList_want hw fun _ hK => wp_build t parts ho (by rw [hf]; rfl) (hK _ _ (by rw [hf]; exact h))
theorem blk_new (w : World) (g : Nat) (t : TypeId) (c : List Value) (hg : g = w.heap.size) : Blk (w.alloc (.cells c.toArray t)) g t c := by
  subst hg
  exact heap_alloc_new w _
section
variable {P : Program} {md : Region.Mode} {ops : Array Oper} {Q : Exit → Act → World → Prop} {S : World → Prop} {a : Act} {w : World}
/-- A call, whatever else is ready. -/
theorem clO {i : Nat} {oi : Oper} {K : Act → World → Prop} (hi : ops[i]? = some oi) (hw : Region.wanted oi (yielded ops a.tmps) = true) (f : FuncId) (args : Array Value) (hen : ∀ w, (execOp a.eval oi).run P w = .ok (.enter f args) w) (v : Value) (R : World → Prop)
    (hc : Calls P f args w fun e w' => e = .returned v ∧ R w') (h : ∀ w' a', a' = a.put oi.dst v → R w' → K a' w') : wpOp P ops Q i K a w := by
  refine wpOp_step hi fun K' hK => ?_
  rw [if_pos hw]
  unfold Oper.wp
  rw [hen, Oper.upon_enter]
  exact hc.mono (by rintro e w' ⟨rfl, r⟩; exact hK _ _ (h w' _ rfl r))
/-- What makes memory. -/
theorem alO {i : Nat} {oi : Oper} {K : Act → World → Prop} (hi : ops[i]? = some oi) (hg : oi.guard = none) (v : Value) (w' : World) (hrun : (execOp a.eval oi).run P w = .ok (.value v) w') (h : ∀ a', a' = a.put oi.dst v → K a' w') : wpOp P ops Q i K a w := by
  refine wpOp_step hi fun K' hK => ?_
  rw [if_pos (wantedN hg)]
  unfold Oper.wp
  rw [hrun, Oper.upon_value]
  exact hK _ _ (h _ rfl)
theorem allH1 {i : Nat} {fuel : Nat} {listed : Array Bool} (hr : Region.ready md ops listed = [i]) (h : wpOp P ops Q i (fun a' w' => S w' ∧ wpAnyH P md ops Q S fuel (listed.setIfInBounds i true) a' w') a w) : wpAnyH P md ops Q S (fuel + 1) listed a w :=
  wpAnyH_all hr (by simp) fun j hj => by obtain rfl := List.mem_singleton.1 hj; exact h
theorem allH2 {i k : Nat} {fuel : Nat} {listed : Array Bool} (hr : Region.ready md ops listed = [i, k]) (h : wpOp P ops Q i (fun a' w' => S w' ∧ wpAnyH P md ops Q S fuel (listed.setIfInBounds i true) a' w') a w)
    (h2 : wpOp P ops Q k (fun a' w' => S w' ∧ wpAnyH P md ops Q S fuel (listed.setIfInBounds k true) a' w') a w) : wpAnyH P md ops Q S (fuel + 1) listed a w :=
  wpAnyH_all hr (by simp) fun j hj => by
    rcases List.mem_cons.1 hj with rfl | hj
    · exact h
    · obtain rfl := List.mem_singleton.1 hj; exact h2
end
/-- What lies in memory while nobody's writers and readers are asked. -/
structure NilS (W v : World) (B A AS R RS : Nat) (c : List Value) : Prop where
  b : Blk v B 39 c
  wa : ∃ b sl, Blk v A 62 [.bool false, .bool b, sl]
  ws : Blk v AS 42 [.pointer none, .pointer (some ⟨A, 0, none⟩)]
  ra : ∃ b sl, Blk v R 64 [.bool false, .bool b, sl]
  rs : Blk v RS 26 [.pointer none, .pointer (some ⟨R, 0, none⟩)]
  q : Qt W v
  lt : W.heap.size ≤ B ∧ B < A ∧ A < AS ∧ AS < R ∧ R < RS
theorem NilS.qt {W v v' : World} {B A AS R RS : Nat} {c : List Value} (h : NilS W v B A AS R RS c) (q : Qt v v') : NilS W v' B A AS R RS c := by
  obtain ⟨h1, ⟨b, sl, h2⟩, h3, ⟨b2, sl2, h4⟩, h5, h6, h7⟩ := h
  exact ⟨h1.qt q, ⟨b, sl, h2.qt q⟩, h3.qt q, ⟨b2, sl2, h4.qt q⟩, h5.qt q, h6.trans q, h7⟩
theorem NilS.gw {W v v' : World} {B A AS R RS : Nat} {c : List Value} {S : Nat → Prop} (h : NilS W v B A AS R RS c) (g : Gs S v v') (hS : ∀ k, S k → k = A) (hw : ∃ b sl, Blk v' A 62 [.bool false, .bool b, sl]) : NilS W v' B A AS R RS c := by
  obtain ⟨h1, _, h3, ⟨b2, sl2, h4⟩, h5, h6, h7⟩ := h
  exact ⟨g.blk h1 (fun e => by have := hS _ e; omega), hw, g.blk h3 (fun e => by have := hS _ e; omega), ⟨b2, sl2, g.blk h4 (fun e => by have := hS _ e; omega)⟩, g.blk h5 (fun e => by have := hS _ e; omega), Gs.below h6 g (fun k e => by have := hS k e; omega), h7⟩
theorem NilS.gr {W v v' : World} {B A AS R RS : Nat} {c : List Value} {S : Nat → Prop} (h : NilS W v B A AS R RS c) (g : Gs S v v') (hS : ∀ k, S k → k = R) (hr : ∃ b sl, Blk v' R 64 [.bool false, .bool b, sl]) : NilS W v' B A AS R RS c := by
  obtain ⟨h1, ⟨b, sl, h2⟩, h3, _, h5, h6, h7⟩ := h
  exact ⟨g.blk h1 (fun e => by have := hS _ e; omega), ⟨b, sl, g.blk h2 (fun e => by have := hS _ e; omega)⟩, g.blk h3 (fun e => by have := hS _ e; omega), hr, g.blk h5 (fun e => by have := hS _ e; omega), Gs.below h6 g (fun k e => by have := hS k e; omega), h7⟩
section
variable {W v : World} {B A AS R RS : Nat} {c : List Value}
theorem put_N (p : Value) (hp : p = .pointer none ∨ p = .pointer (some ⟨A, 0, none⟩)) (x : PutD) (bv : Value) (h : NilS W v B A AS R RS c) (hx : x.Ok) (hb : Rd W bv x.b.length (u8s x.b)) :
    Calls Try.prog 14 #[p, .agg (putC x bv).toArray] v fun e w' => e = .returned (.tuple #[]) ∧ NilS W w' B A AS R RS c := by
  have h1 := hx.bl
  have h2 := hx.sl
  have hl : lenO none + 40 + x.b.length ≤ 140737488355328 ∧ lenO none + 40 + x.s.length ≤ 140737488355328 := by simp only [lenO]; omega
  obtain ⟨b, sl, hA⟩ := h.wa
  rcases hp with rfl | rfl
  · exact (put_any (fun _ => False) _ .nil x bv none v ⟨rfl, rfl, fun k h => h.elim⟩ hx (hb.below h.q) hl).mono (by rintro e w' ⟨rfl, _, hg⟩; exact ⟨rfl, h.gw hg (fun k hk => hk.elim) ⟨b, sl, hg.blk hA (fun e => e)⟩⟩)
  · exact (put_any (fun k => k = A) _ (.raw A) x bv none v ⟨rfl, ⟨b, sl, hA⟩, rfl, rfl, fun k hk => by rw [hk]; exact hA.lt⟩ hx (hb.below h.q) hl).mono (by rintro e w' ⟨rfl, ⟨_, hw, _⟩, hg⟩; exact ⟨rfl, h.gw hg (fun k hk => hk) hw⟩)
theorem bytes_N (p : Value) (hp : p = .pointer none ∨ p = .pointer (some ⟨A, 0, none⟩)) (h : NilS W v B A AS R RS c) :
    Calls Try.prog 16 #[p] v fun e w' => e = .returned (.tuple #[.slice none 0 0, .int .i64 1]) ∧ v = w' := by
  obtain ⟨b, sl, hA⟩ := h.wa
  rcases hp with rfl | rfl
  · exact wBytes_nil v
  · exact wBytes_unmade A b sl v hA
theorem rdx_N (p : Value) (hp : p = .pointer none ∨ p = .pointer (some ⟨R, 0, none⟩)) (h : NilS W v B A AS R RS c) : ∃ m : RM, RdX v p m none ∧ (∀ a, m ≠ .live a) ∧ (∀ k, m.S k → k = R) ∧ ∀ v', RdX v' p m none → Gs m.S v v' → NilS W v' B A AS R RS c := by
  obtain ⟨b, sl, hR⟩ := h.ra
  rcases hp with rfl | rfl
  · exact ⟨.nil, ⟨rfl, rfl⟩, (fun a e => by cases e), (fun k hk => hk.elim), fun v' h1 g => h.gr g (fun k hk => hk.elim) ⟨b, sl, g.blk hR (fun e => e)⟩⟩
  · exact ⟨.raw R, ⟨rfl, ⟨b, sl, hR⟩, rfl⟩, (fun a e => by cases e), (fun k hk => hk), fun v' h1 g => h.gr g (fun k hk => hk) h1.2.1⟩
theorem tells_N (TL : List Value) (hTL : TL = toldC 0 0 Z32 (str []) false 0 1 false) (p : Value) (hp : p = .pointer none ∨ p = .pointer (some ⟨R, 0, none⟩)) (x : PutD) (bv : Value) (h : NilS W v B A AS R RS c) (hx : x.Ok) :
    Calls Try.prog 11 #[p, .agg (putC x bv).toArray] v fun e w' => e = .returned (.agg TL.toArray) ∧ NilS W w' B A AS R RS c ∧ Gs (fun k => k = R) v w' := by
  obtain ⟨m, h1, h2, h3, h4⟩ := rdx_N p hp h
  refine (tells_any p m x bv none v h1 hx).mono ?_
  rintro e w' ⟨rfl, h5, g⟩
  rw [nextK_none] at h5
  exact ⟨by rw [toldX_none x m h2, hTL], h4 w' h5 g, g.mono fun k _ hk => h3 k hk⟩
theorem spoil_N (p : Value) (hp : p = .pointer none ∨ p = .pointer (some ⟨R, 0, none⟩)) (h : NilS W v B A AS R RS c) :
    Calls Try.prog 27 #[p] v fun e w' => e = .returned (.tuple #[]) ∧ NilS W w' B A AS R RS c ∧ Gs (fun k => k = R) v w' := by
  obtain ⟨m, h1, h2, h3, h4⟩ := rdx_N p hp h
  refine (Spoil_x p m none v h1).mono ?_
  rintro e w' ⟨rfl, h5, g⟩
  exact ⟨rfl, h4 w' h5 g, g.mono fun k _ hk => h3 k hk⟩
theorem err_N (p : Value) (hp : p = .pointer none ∨ p = .pointer (some ⟨R, 0, none⟩)) (h : NilS W v B A AS R RS c) :
    Calls Try.prog 20 #[p] v fun e w' => e = .returned (.int .i64 1) ∧ v = w' := by
  obtain ⟨m, h1, h2, h3, h4⟩ := rdx_N p hp h
  have h5 : errX m none = 1 := by
    cases m with
    | live a => exact absurd rfl (h2 a)
    | nil => rfl
    | raw a => rfl
  have := Err_x p m none v h1
  rw [h5] at this
  exact this
end

set_option maxRecDepth 1000000 in
set_option maxHeartbeats 4000000 in
theorem wireNil_any (x : PutD) (bv : Value) (W : World) (hx : x.Ok) (hb : Rd W bv x.b.length (u8s x.b)) :
    Calls Try.prog 7 #[.agg (putC x bv).toArray] W fun e w' => e = .returned (.bool true) ∧ Qt W w' := by
  have HX := Lib.hid hx
  have HB := Lib.hid hb
  obtain ⟨ba, bc, rfl, _⟩ := hb
  obtain ⟨fs, hfs⟩ : ∃ fs, Try.prog.underlying 39 = some (.struct fs) := und_struct (by kernel_rfl)
  have HFS := Lib.hid hfs
  have HWB := Lib.hid (show Try.prog.built 62 [] = some #[.bool false, .bool false, .slice none 0 0] by kernel_rfl)
  have HRB := Lib.hid (show Try.prog.built 64 [] = some #[.bool false, .bool false, .slice none 0 0] by kernel_rfl)
  obtain ⟨ft, hft⟩ : ∃ fs, Try.prog.underlying 36 = some (.struct fs) := und_struct (by kernel_rfl)
  have HFT := Lib.hid hft
  obtain ⟨TL, hTL⟩ : ∃ TL, TL = toldC 0 0 Z32 (str []) false 0 1 false := ⟨_, rfl⟩
  have HTL := Lib.hid hTL
  have HTS := Lib.hid (show ((Try.prog).info? 36).map (·.size) = some TL.toArray.size by rw [hTL]; kernel_rfl)
  have HTO := Lib.hid (show TL.toArray.all (·.oneCell') = true by
    rw [hTL, List.all_toArray, List.all_eq_true]
    intro v hv
    unfold toldC at hv
    rcases List.mem_append.1 hv with hv | hv
    · simp at hv; rcases hv with rfl | rfl <;> rfl
    · rcases List.mem_append.1 hv with hv | hv
      · exact u8s_one1 _ v hv
      · simp at hv; rcases hv with rfl | rfl | rfl | rfl | rfl <;> rfl)
  have HLIT := Lib.hid (show TL.toArray = #[.int .i64 0, .int .u64 0, .int .u8 0, .int .u8 0, .int .u8 0, .int .u8 0, .int .u8 0, .int .u8 0, .int .u8 0, .int .u8 0, .int .u8 0, .int .u8 0, .int .u8 0, .int .u8 0, .int .u8 0, .int .u8 0, .int .u8 0, .int .u8 0, .int .u8 0, .int .u8 0, .int .u8 0, .int .u8 0, .int .u8 0, .int .u8 0, .int .u8 0, .int .u8 0, .int .u8 0, .int .u8 0, .int .u8 0, .int .u8 0, .int .u8 0, .int .u8 0, .int .u8 0, .int .u8 0, .string ⟨#[]⟩, .bool false, .int .i64 0, .int .i64 1, .bool false] by rw [hTL]; rfl)
  have hnq : ∀ w, (binOp .neq 36 (.agg TL.toArray) (.agg TL.toArray)).run Try.prog w = .ok (.bool false) w := by
    intro w
    obtain ⟨⟨la, hla⟩, hln⟩ := toldX_ok x .nil none StOk.none
    rw [toldX_none x .nil (fun a e => by cases e), ← hTL] at hla hln
    exact neq_same TL ⟨la, hla⟩ hln w
  have HNQ := Lib.hid hnq
  clear hnq
  clear hx hfs hft hTL
  go_enter Try.func7, Try.ntmps7
  go_wp2_with (first
    | (refine wpList_build rfl _ rfl (by rw [show _ = some _ from HWB.out]; rfl) ?_)
    | (refine wpList_build rfl _ rfl (by rw [show _ = some _ from HRB.out]; rfl) ?_))
  have hn0 : NilS W (((((W.alloc (.cells (putC x (.slice ba x.b.length bc)).toArray 39)).alloc (.cells #[.bool false, .bool false, .slice none 0 0] 62)).alloc (.cells #[.pointer none, .pointer (some ⟨W.heap.size + 1, 0, none⟩)] 42)).alloc (.cells #[.bool false, .bool false, .slice none 0 0] 64)).alloc (.cells #[.pointer none, .pointer (some ⟨W.heap.size + 1 + 1 + 1, 0, none⟩)] 26)) W.heap.size (W.heap.size + 1) (W.heap.size + 1 + 1) (W.heap.size + 1 + 1 + 1) (W.heap.size + 1 + 1 + 1 + 1) (putC x (.slice ba x.b.length bc)) := by
    refine ⟨?_, ⟨false, .slice none 0 0, ?_⟩, ?_, ⟨false, .slice none 0 0, ?_⟩, ?_, ((((((Qt.refl W).alloc _).alloc _).alloc _).alloc _).alloc _), by omega⟩
    · exact ((((blk_new W W.heap.size _ (putC x (.slice ba x.b.length bc)) rfl).alloc _).alloc _).alloc _).alloc _
    · exact (((blk_new _ _ _ [.bool false, .bool false, .slice none 0 0] (by simp)).alloc _).alloc _).alloc _
    · exact ((blk_new _ _ _ [.pointer none, .pointer (some ⟨W.heap.size + 1, 0, none⟩)] (by simp)).alloc _).alloc _
    · exact (blk_new _ _ _ [.bool false, .bool false, .slice none 0 0] (by simp)).alloc _
    · exact blk_new _ _ _ [.pointer none, .pointer (some ⟨W.heap.size + 1 + 1 + 1, 0, none⟩)] (by simp)
  have HN := Lib.hid hn0
  obtain ⟨RS, hRS⟩ : ∃ RS, RS = W.heap.size + 1 + 1 + 1 + 1 := ⟨_, rfl⟩
  rw [← hRS] at HN ⊢
  obtain ⟨R, hR⟩ : ∃ R, R = W.heap.size + 1 + 1 + 1 := ⟨_, rfl⟩
  rw [← hR] at HN ⊢
  obtain ⟨AS, hAS⟩ : ∃ AS, AS = W.heap.size + 1 + 1 := ⟨_, rfl⟩
  rw [← hAS] at HN ⊢
  obtain ⟨A, hA⟩ : ∃ A, A = W.heap.size + 1 := ⟨_, rfl⟩
  rw [← hA] at HN ⊢
  obtain ⟨B, hBB⟩ : ∃ B, B = W.heap.size := ⟨_, rfl⟩
  rw [← hBB] at HN ⊢
  have H37 := Lib.hid (putC_lenU x (.slice ba x.b.length bc) HX.out.h32)
  clear hn0 hRS hR hAS hA hBB HWB HRB
  go_loopw [5] (fun i v => ∃ k : Nat, k ≤ 2 ∧ i = .int .i64 k ∧ NilS W v B A AS R RS (putC x (.slice ba x.b.length bc))) (fun i _ => 2 - (intOf i).toNat)
  case atStart => exact ⟨0, by omega, rfl, HN.out⟩
  case round =>
    obtain ⟨k, hk, rfl, hn⟩ := hrel
    clear HN
    by_cases hlt : k < 2
    · by_cases h0 : k = 0
      · subst h0
        have HN0 := Lib.hid (hn.qt (Qt.refl _).drew)
        clear hn
        go_wp2_with fail
        refine wp_region_held (S := (fun v => Blk v B 39 (putC x (.slice ba x.b.length bc)) ∧ Blk v AS 42 [.pointer none, .pointer (some ⟨A, 0, none⟩)])) (by kernel_rfl) ?_
        change wpAnyH _ _ _ _ _ _ _ _ (World.drew _)
        refine genH fun F0 hA => ?_
        have z0 : F0.tmps.size = 65 := by rw [hA]; rfl
        have e1_0 : F0.eval (.tmp 1) = .pointer (some ⟨B, 0, none⟩) := by rw [hA]; rfl
        have e3_0 : F0.eval (.tmp 3) = .slice (some ⟨AS, 0, none⟩) 2 2 := by rw [hA]; rfl
        have e5_0 : F0.eval (.tmp 5) = .int .i64 ((0 : Nat) : Int) := by rw [hA]; rfl
        have HA := Lib.hid hA
        clear hA
        have HS := Lib.hid (show Blk _ B 39 (putC x (.slice ba x.b.length bc)) ∧ Blk _ AS 42 _ from ⟨HN0.out.b, HN0.out.ws⟩)
        refine tkH (i := 0) (oi := _) (v := .slice (some ⟨AS, 0, none⟩) 2 2) rfl (by kernel_rfl) (by kernel_rfl) (by kernel_rfl) (fun _ _ _ h => h) HS.out (wantedN rfl) (fun w _ => mv1 rfl e3_0 w) ?_
        intro F1 hF
        replace hF : F1 = F0.put (some 19) (.slice (some ⟨AS, 0, none⟩) 2 2) := hF
        have z1 : F1.tmps.size = 65 := by rw [hF]; simpa [Act.put] using z0
        have e1_1 := (show F1.eval (.tmp 1) = F0.eval (.tmp 1) by rw [hF]; exact evO (by decide)).trans e1_0
        have e5_1 := (show F1.eval (.tmp 5) = F0.eval (.tmp 5) by rw [hF]; exact evO (by decide)).trans e5_0
        have e19_1 : F1.eval (.tmp 19) = .slice (some ⟨AS, 0, none⟩) 2 2 := by rw [hF]; exact evS (by rw [z0]; decide)
        have HF1 := Lib.hid hF
        clear hF e1_0 e3_0 e5_0
        refine tkH (i := 1) (oi := _) (v := .int .i64 ((0 : Nat) : Int)) rfl (by kernel_rfl) (by kernel_rfl) (by kernel_rfl) (fun _ _ _ h => h) HS.out (wantedN rfl) (fun w _ => mv1 rfl e5_1 w) ?_
        intro F2 hF
        replace hF : F2 = F1.put (some 20) (.int .i64 ((0 : Nat) : Int)) := hF
        have z2 : F2.tmps.size = 65 := by rw [hF]; simpa [Act.put] using z1
        have e1_2 := (show F2.eval (.tmp 1) = F1.eval (.tmp 1) by rw [hF]; exact evO (by decide)).trans e1_1
        have e19_2 := (show F2.eval (.tmp 19) = F1.eval (.tmp 19) by rw [hF]; exact evO (by decide)).trans e19_1
        have e20_2 : F2.eval (.tmp 20) = .int .i64 ((0 : Nat) : Int) := by rw [hF]; exact evS (by rw [z1]; decide)
        have HF2 := Lib.hid hF
        clear hF e1_1 e5_1 e19_1
        refine tkH (i := 2) (oi := _) (v := .pointer (some ⟨AS, 0, none⟩)) rfl (by kernel_rfl) (by kernel_rfl) (by kernel_rfl) (fun _ _ _ h => h) HS.out (wantedN rfl) (fun w _ => ia1 rfl e19_2 e20_2 (by go_simp)) ?_
        intro F3 hF
        replace hF : F3 = F2.put (some 21) (.pointer (some ⟨AS, 0, none⟩)) := hF
        have z3 : F3.tmps.size = 65 := by rw [hF]; simpa [Act.put] using z2
        have e1_3 := (show F3.eval (.tmp 1) = F2.eval (.tmp 1) by rw [hF]; exact evO (by decide)).trans e1_2
        have e21_3 : F3.eval (.tmp 21) = .pointer (some ⟨AS, 0, none⟩) := by rw [hF]; exact evS (by rw [z2]; decide)
        have HF3 := Lib.hid hF
        clear hF e1_2 e19_2 e20_2
        refine tkH (i := 3) (oi := _) (v := .pointer none) rfl (by kernel_rfl) (by kernel_rfl) (by kernel_rfl) (fun _ _ _ h => h) HS.out (wantedN rfl) (fun w hs => ld1 rfl e21_3 (by have c := (Blk.cell hs.2 0).trans (rfl : _ = some (.pointer none : Value)); go_simp)) ?_
        intro F4 hF
        replace hF : F4 = F3.put (some 22) (.pointer none) := hF
        have z4 : F4.tmps.size = 65 := by rw [hF]; simpa [Act.put] using z3
        have e1_4 := (show F4.eval (.tmp 1) = F3.eval (.tmp 1) by rw [hF]; exact evO (by decide)).trans e1_3
        have e22_4 : F4.eval (.tmp 22) = .pointer none := by rw [hF]; exact evS (by rw [z3]; decide)
        have HF4 := Lib.hid hF
        clear hF e1_3 e21_3
        refine tkH (i := 4) (oi := _) (v := .agg (putC x (.slice ba x.b.length bc)).toArray) rfl (by kernel_rfl) (by kernel_rfl) (by kernel_rfl) (fun _ _ _ h => h) HS.out (wantedN rfl) (fun w hs => ldRow rfl e1_4 (blk_range hs.1) (d := .struct fs) HFS.out rfl (by rw [H37.out]; kernel_rfl)) ?_
        intro F5 hF
        replace hF : F5 = F4.put (some 23) (.agg (putC x (.slice ba x.b.length bc)).toArray) := hF
        have z5 : F5.tmps.size = 65 := by rw [hF]; simpa [Act.put] using z4
        have e22_5 := (show F5.eval (.tmp 22) = F4.eval (.tmp 22) by rw [hF]; exact evO (by decide)).trans e22_4
        have e23_5 : F5.eval (.tmp 23) = .agg (putC x (.slice ba x.b.length bc)).toArray := by rw [hF]; exact evS (by rw [z4]; decide)
        have HF5 := Lib.hid hF
        clear hF e1_4 e22_4
        refine clH (i := 5) (oi := _) rfl (by kernel_rfl) (wantedN rfl) 14 #[.pointer none, .agg (putC x (.slice ba x.b.length bc)).toArray] (clF rfl (by simp only [List.map_toArray, List.map_cons, List.map_nil, e22_5, e23_5] <;> rfl) (fun args w => by kernel_rfl)) (.tuple #[]) (fun w' => NilS W w' B A AS R RS (putC x (.slice ba x.b.length bc))) (put_N _ (.inl rfl) x (.slice ba x.b.length bc) HN0.out HX.out HB.out) ?_
        intro w2 F6 hF hn2
        replace hF : F6 = F5.put (some 24) (.tuple #[]) := hF
        have HN2 := Lib.hid hn2
        clear hn2
        refine ⟨(show Blk _ B 39 (putC x (.slice ba x.b.length bc)) ∧ Blk _ AS 42 _ from ⟨HN2.out.b, HN2.out.ws⟩), ?_⟩
        have HS := Lib.hid ((show Blk _ B 39 (putC x (.slice ba x.b.length bc)) ∧ Blk _ AS 42 _ from ⟨HN2.out.b, HN2.out.ws⟩))
        have z6 : F6.tmps.size = 65 := by rw [hF]; simpa [Act.put] using z5
        have HF6 := Lib.hid hF
        clear hF e22_5 e23_5
        refine wpAnyH_done (by kernel_rfl) ?_ _
        rw [HF6.out, HF5.out, HF4.out, HF3.out, HF2.out, HF1.out, HA.out]
        simp only [Act.put, List.setIfInBounds_toArray, List.set_cons_succ, List.set_cons_zero]
        clear HF6 HF5 HF4 HF3 HF2 HF1 HA z6 z5 z4 z3 z2 z1 z0 
        have cw0 : w2.cell? ⟨AS, 0, none⟩ = some (.pointer none) := HN2.out.ws.cell 0
        go_wp2_with (go_at_call 16; refine (bytes_N _ (.inl rfl) HN2.out).mono ?_; rintro e w3 ⟨rfl, rfl⟩)
        have HN3 := Lib.hid (HN2.out.qt (Qt.refl _).drew)
        refine wp_region_held (S := (fun v => Blk v B 39 (putC x (.slice ba x.b.length bc)) ∧ Blk v RS 26 [.pointer none, .pointer (some ⟨R, 0, none⟩)])) (by kernel_rfl) ?_
        change wpAnyH _ _ _ _ _ _ _ _ (World.drew _)
        refine genH fun F0 hA => ?_
        have z0 : F0.tmps.size = 65 := by rw [hA]; rfl
        have e1_0 : F0.eval (.tmp 1) = .pointer (some ⟨B, 0, none⟩) := by rw [hA]; rfl
        have e4_0 : F0.eval (.tmp 4) = .slice (some ⟨RS, 0, none⟩) 2 2 := by rw [hA]; rfl
        have e5_0 : F0.eval (.tmp 5) = .int .i64 ((0 : Nat) : Int) := by rw [hA]; rfl
        have HA := Lib.hid hA
        clear hA
        have HS := Lib.hid (show Blk _ B 39 (putC x (.slice ba x.b.length bc)) ∧ Blk _ RS 26 _ from ⟨HN3.out.b, HN3.out.rs⟩)
        refine tkH (i := 0) (oi := _) (v := .slice (some ⟨RS, 0, none⟩) 2 2) rfl (by kernel_rfl) (by kernel_rfl) (by kernel_rfl) (fun _ _ _ h => h) HS.out (wantedN rfl) (fun w _ => mv1 rfl e4_0 w) ?_
        intro F1 hF
        replace hF : F1 = F0.put (some 33) (.slice (some ⟨RS, 0, none⟩) 2 2) := hF
        have z1 : F1.tmps.size = 65 := by rw [hF]; simpa [Act.put] using z0
        have e1_1 := (show F1.eval (.tmp 1) = F0.eval (.tmp 1) by rw [hF]; exact evO (by decide)).trans e1_0
        have e5_1 := (show F1.eval (.tmp 5) = F0.eval (.tmp 5) by rw [hF]; exact evO (by decide)).trans e5_0
        have e33_1 : F1.eval (.tmp 33) = .slice (some ⟨RS, 0, none⟩) 2 2 := by rw [hF]; exact evS (by rw [z0]; decide)
        have HF1 := Lib.hid hF
        clear hF e1_0 e4_0 e5_0
        refine tkH (i := 1) (oi := _) (v := .int .i64 ((0 : Nat) : Int)) rfl (by kernel_rfl) (by kernel_rfl) (by kernel_rfl) (fun _ _ _ h => h) HS.out (wantedN rfl) (fun w _ => mv1 rfl e5_1 w) ?_
        intro F2 hF
        replace hF : F2 = F1.put (some 34) (.int .i64 ((0 : Nat) : Int)) := hF
        have z2 : F2.tmps.size = 65 := by rw [hF]; simpa [Act.put] using z1
        have e1_2 := (show F2.eval (.tmp 1) = F1.eval (.tmp 1) by rw [hF]; exact evO (by decide)).trans e1_1
        have e33_2 := (show F2.eval (.tmp 33) = F1.eval (.tmp 33) by rw [hF]; exact evO (by decide)).trans e33_1
        have e34_2 : F2.eval (.tmp 34) = .int .i64 ((0 : Nat) : Int) := by rw [hF]; exact evS (by rw [z1]; decide)
        have HF2 := Lib.hid hF
        clear hF e1_1 e5_1 e33_1
        refine tkH (i := 2) (oi := _) (v := .pointer (some ⟨RS, 0, none⟩)) rfl (by kernel_rfl) (by kernel_rfl) (by kernel_rfl) (fun _ _ _ h => h) HS.out (wantedN rfl) (fun w _ => ia1 rfl e33_2 e34_2 (by go_simp)) ?_
        intro F3 hF
        replace hF : F3 = F2.put (some 35) (.pointer (some ⟨RS, 0, none⟩)) := hF
        have z3 : F3.tmps.size = 65 := by rw [hF]; simpa [Act.put] using z2
        have e1_3 := (show F3.eval (.tmp 1) = F2.eval (.tmp 1) by rw [hF]; exact evO (by decide)).trans e1_2
        have e35_3 : F3.eval (.tmp 35) = .pointer (some ⟨RS, 0, none⟩) := by rw [hF]; exact evS (by rw [z2]; decide)
        have HF3 := Lib.hid hF
        clear hF e1_2 e33_2 e34_2
        refine tkH (i := 3) (oi := _) (v := .pointer none) rfl (by kernel_rfl) (by kernel_rfl) (by kernel_rfl) (fun _ _ _ h => h) HS.out (wantedN rfl) (fun w hs => ld1 rfl e35_3 (by have c := (Blk.cell hs.2 0).trans (rfl : _ = some (.pointer none : Value)); go_simp)) ?_
        intro F4 hF
        replace hF : F4 = F3.put (some 36) (.pointer none) := hF
        have z4 : F4.tmps.size = 65 := by rw [hF]; simpa [Act.put] using z3
        have e1_4 := (show F4.eval (.tmp 1) = F3.eval (.tmp 1) by rw [hF]; exact evO (by decide)).trans e1_3
        have e36_4 : F4.eval (.tmp 36) = .pointer none := by rw [hF]; exact evS (by rw [z3]; decide)
        have HF4 := Lib.hid hF
        clear hF e1_3 e35_3
        refine tkH (i := 4) (oi := _) (v := .agg (putC x (.slice ba x.b.length bc)).toArray) rfl (by kernel_rfl) (by kernel_rfl) (by kernel_rfl) (fun _ _ _ h => h) HS.out (wantedN rfl) (fun w hs => ldRow rfl e1_4 (blk_range hs.1) (d := .struct fs) HFS.out rfl (by rw [H37.out]; kernel_rfl)) ?_
        intro F5 hF
        replace hF : F5 = F4.put (some 37) (.agg (putC x (.slice ba x.b.length bc)).toArray) := hF
        have z5 : F5.tmps.size = 65 := by rw [hF]; simpa [Act.put] using z4
        have e36_5 := (show F5.eval (.tmp 36) = F4.eval (.tmp 36) by rw [hF]; exact evO (by decide)).trans e36_4
        have e37_5 : F5.eval (.tmp 37) = .agg (putC x (.slice ba x.b.length bc)).toArray := by rw [hF]; exact evS (by rw [z4]; decide)
        have HF5 := Lib.hid hF
        clear hF e1_4 e36_4
        obtain ⟨V, hV⟩ : ∃ V, V = World.drew w2 := ⟨_, rfl⟩
        rw [← hV] at HN3 ⊢
        clear hV
        refine allH2 (i := 5) (k := 6) (by kernel_rfl) ?_ ?_
        · refine clO (i := 5) (oi := _) rfl (wantedN rfl) 11 #[.pointer none, .agg (putC x (.slice ba x.b.length bc)).toArray] (clF rfl (by simp only [List.map_toArray, List.map_cons, List.map_nil, e36_5, e37_5] <;> rfl) (fun args w => by kernel_rfl)) (.agg TL.toArray) (fun w' => NilS W w' B A AS R RS (putC x (.slice ba x.b.length bc)) ∧ Gs (fun k => k = R) V w') (tells_N TL HTL.out _ (.inl rfl) x (.slice ba x.b.length bc) HN3.out HX.out) ?_
          intro w4 F6 hF ⟨hn4, hg4⟩
          replace hF : F6 = F5.put (some 38) (.agg TL.toArray) := hF
          have HN4 := Lib.hid hn4
          refine ⟨(show Blk _ B 39 (putC x (.slice ba x.b.length bc)) ∧ Blk _ RS 26 _ from ⟨HN4.out.b, HN4.out.rs⟩), ?_⟩
          refine allH1 (i := 6) (by kernel_rfl) ?_
          refine alO (oi := _) rfl rfl _ _ (alRun _ _ rfl _) ?_
          intro F7 hF7
          replace hF7 : F7 = F6.put (some 8) (.pointer (some ⟨w4.heap.size, 0, none⟩)) := hF7
          have HN5 := Lib.hid (HN4.out.qt ((Qt.refl w4).alloc (.cells toldZ.toArray 36)))
          refine ⟨(show Blk _ B 39 (putC x (.slice ba x.b.length bc)) ∧ Blk _ RS 26 _ from ⟨HN5.out.b, HN5.out.rs⟩), ?_⟩
          have hb8 := blk_new w4 w4.heap.size 36 toldZ rfl
          have z6 : F6.tmps.size = 65 := by rw [hF]; simpa [Act.put] using z5
          have e8 : F7.eval (.tmp 8) = .pointer (some ⟨w4.heap.size, 0, none⟩) := by rw [hF7]; exact evS (by rw [z6]; decide)
          have e38 : F7.eval (.tmp 38) = .agg TL.toArray := by rw [hF7]; exact (evO (by decide)).trans (by rw [hF]; exact evS (by rw [z5]; decide))
          obtain ⟨T, hT⟩ : ∃ T, T = w4.heap.size := ⟨_, rfl⟩
          have hTW : W.heap.size ≤ T := by rw [hT]; exact HN4.out.q.size
          rw [← hT] at hb8 e8 hF7
          obtain ⟨v5, hv5⟩ : ∃ v, v = w4.alloc (.cells toldZ.toArray 36) := ⟨_, rfl⟩
          rw [← hv5] at hb8 HN5 ⊢
          have hTN : B ≠ T ∧ A ≠ T ∧ AS ≠ T ∧ R ≠ T ∧ RS ≠ T := by
            rw [hT]
            obtain ⟨_, _, hwa⟩ := HN4.out.wa
            obtain ⟨_, _, hra⟩ := HN4.out.ra
            have h1 := HN4.out.b.lt
            have h2 := hwa.lt
            have h3 := HN4.out.ws.lt
            have h4 := hra.lt
            have h5 := HN4.out.rs.lt
            omega
          have HF6 := Lib.hid hF
          have HF7 := Lib.hid hF7
          clear hF hF7 hT hv5 hn4 hg4 z6
          refine stH1 (i := 7) (oi := _) rfl (by kernel_rfl) rfl rfl (v5.setRow T TL.toArray) (stRow rfl e8 e38 hb8 HTS.out (by rw [HTL.out]; rfl) HTO.out) ?_
          have hgT : Gs (fun k => k = T) v5 (v5.setRow T TL.toArray) := Gs.of_og (og_setRow (Og.refl T v5) (.inl rfl) _) rfl
          have hn6 : NilS W (v5.setRow T TL.toArray) B A AS R RS (putC x (.slice ba x.b.length bc)) := by
            obtain ⟨h1, ⟨b, sl, h2⟩, h3, ⟨b2, sl2, h4⟩, h5, h6, h7⟩ := HN5.out
            exact ⟨hgT.blk h1 hTN.1, ⟨b, sl, hgT.blk h2 hTN.2.1⟩, hgT.blk h3 hTN.2.2.1, ⟨b2, sl2, hgT.blk h4 hTN.2.2.2.1⟩, hgT.blk h5 hTN.2.2.2.2, Gs.below h6 hgT (fun k e => by rw [e]; exact hTW), h7⟩
          have HN6 := Lib.hid hn6
          have HB8 := Lib.hid (blk_setRow hb8 TL)
          refine ⟨(show Blk _ B 39 (putC x (.slice ba x.b.length bc)) ∧ Blk _ RS 26 _ from ⟨HN6.out.b, HN6.out.rs⟩), ?_⟩
          obtain ⟨v6, hv6⟩ : ∃ v, v = v5.setRow T TL.toArray := ⟨_, rfl⟩
          rw [← hv6] at HN6 HB8 ⊢
          clear hn6 hgT hb8 hv6
          refine wpAnyH_done (by kernel_rfl) ?_ _
          rw [HF7.out, HF6.out, HF5.out, HF4.out, HF3.out, HF2.out, HF1.out, HA.out]
          simp only [Act.put, List.setIfInBounds_toArray, List.set_cons_succ, List.set_cons_zero]
          clear HF7 HF6 HF5 HF4 HF3 HF2 HF1 HA z5 z4 z3 z2 z1 z0 e36_5 e37_5 HS e8 e38
          have HTN := Lib.hid hTN
          clear hTN hTW
          have cr : v6.cell? ⟨RS, 0, none⟩ = some (.pointer none) := HN6.out.rs.cell 0
          go_wp2_with (first
            | (go_at_call 27; refine (spoil_N _ (.inl rfl) HN6.out).mono ?_; rintro e v7 ⟨rfl, hn7, hg7⟩; (have HN7 := Lib.hid hn7); (have HB9 := Lib.hid (hg7.blk HB8.out HTN.out.2.2.2.1.symm)); (have cr7 : v7.cell? ⟨RS, 0, none⟩ = some (.pointer none) := hn7.rs.cell 0); clear hn7 hg7)
            | (go_at_call 20; refine (err_N _ (.inl rfl) HN7.out).mono ?_; rintro e v8 ⟨rfl, rfl⟩)
            | (have _t := HB9; refine wpList_load_rowG 36 (.tmp 8) rfl T rfl 36 _ (.struct ft) HB9.out HFT.out rfl HTS.out rfl ?_)
            | (have _t := HB9; refine wpList_valG (.bool false) (bo1 (x := .tmp 52) (y := .tmp 53) rfl rfl (congrArg Value.agg HLIT.out).symm (run_eqGuard_agg _ _ _ _ _ _ _ (by kernel_rfl)) (HNQ.out _)) rfl ?_))
          go_roundw
          case rel => exact ⟨1, by omega, by go_num, HN7.out⟩
          case measure => simp [intOf]
        · refine alO (i := 6) (oi := _) rfl rfl _ _ (alRun _ _ rfl _) ?_
          intro F6 hF
          replace hF : F6 = F5.put (some 8) (.pointer (some ⟨V.heap.size, 0, none⟩)) := hF
          have HN4 := Lib.hid (HN3.out.qt ((Qt.refl V).alloc (.cells toldZ.toArray 36)))
          refine ⟨(show Blk _ B 39 (putC x (.slice ba x.b.length bc)) ∧ Blk _ RS 26 _ from ⟨HN4.out.b, HN4.out.rs⟩), ?_⟩
          have hb8 := blk_new V V.heap.size 36 toldZ rfl
          obtain ⟨T, hT⟩ : ∃ T, T = V.heap.size := ⟨_, rfl⟩
          have hTW : W.heap.size ≤ T := by rw [hT]; exact HN3.out.q.size
          have hTN : B ≠ T ∧ A ≠ T ∧ AS ≠ T ∧ R ≠ T ∧ RS ≠ T := by
            rw [hT]
            obtain ⟨_, _, hwa⟩ := HN3.out.wa
            obtain ⟨_, _, hra⟩ := HN3.out.ra
            have h1 := HN3.out.b.lt
            have h2 := hwa.lt
            have h3 := HN3.out.ws.lt
            have h4 := hra.lt
            have h5 := HN3.out.rs.lt
            omega
          rw [← hT] at hb8 hF
          obtain ⟨v4, hv4⟩ : ∃ v, v = V.alloc (.cells toldZ.toArray 36) := ⟨_, rfl⟩
          rw [← hv4] at hb8 HN4 ⊢
          have z6 : F6.tmps.size = 65 := by rw [hF]; simpa [Act.put] using z5
          have e36 : F6.eval (.tmp 36) = .pointer none := by rw [hF]; exact (evO (by decide)).trans e36_5
          have e37 : F6.eval (.tmp 37) = .agg (putC x (.slice ba x.b.length bc)).toArray := by rw [hF]; exact (evO (by decide)).trans e37_5
          have e8' : F6.eval (.tmp 8) = .pointer (some ⟨T, 0, none⟩) := by rw [hF]; exact evS (by rw [z5]; decide)
          refine allH1 (i := 5) (by kernel_rfl) ?_
          refine clO (oi := _) rfl (wantedN rfl) 11 #[.pointer none, .agg (putC x (.slice ba x.b.length bc)).toArray] (clF rfl (by simp only [List.map_toArray, List.map_cons, List.map_nil, e36, e37] <;> rfl) (fun args w => by kernel_rfl)) (.agg TL.toArray) (fun w' => NilS W w' B A AS R RS (putC x (.slice ba x.b.length bc)) ∧ Gs (fun k => k = R) v4 w') (tells_N TL HTL.out _ (.inl rfl) x (.slice ba x.b.length bc) HN4.out HX.out) ?_
          intro v5 F7 hF7 ⟨hn5, hg5⟩
          replace hF7 : F7 = F6.put (some 38) (.agg TL.toArray) := hF7
          have HN5 := Lib.hid hn5
          refine ⟨(show Blk _ B 39 (putC x (.slice ba x.b.length bc)) ∧ Blk _ RS 26 _ from ⟨HN5.out.b, HN5.out.rs⟩), ?_⟩
          replace hb8 := hg5.blk hb8 hTN.2.2.2.1.symm
          have e8 : F7.eval (.tmp 8) = .pointer (some ⟨T, 0, none⟩) := by rw [hF7]; exact (evO (by decide)).trans e8'
          have e38 : F7.eval (.tmp 38) = .agg TL.toArray := by rw [hF7]; exact evS (by rw [z6]; decide)
          have HF6 := Lib.hid hF
          have HF7 := Lib.hid hF7
          clear hF hF7 hT hv4 hn5 hg5 z6 e36 e37 e8'
          refine stH1 (i := 7) (oi := _) rfl (by kernel_rfl) rfl rfl (v5.setRow T TL.toArray) (stRow rfl e8 e38 hb8 HTS.out (by rw [HTL.out]; rfl) HTO.out) ?_
          have hgT : Gs (fun k => k = T) v5 (v5.setRow T TL.toArray) := Gs.of_og (og_setRow (Og.refl T v5) (.inl rfl) _) rfl
          have hn6 : NilS W (v5.setRow T TL.toArray) B A AS R RS (putC x (.slice ba x.b.length bc)) := by
            obtain ⟨h1, ⟨b, sl, h2⟩, h3, ⟨b2, sl2, h4⟩, h5, h6, h7⟩ := HN5.out
            exact ⟨hgT.blk h1 hTN.1, ⟨b, sl, hgT.blk h2 hTN.2.1⟩, hgT.blk h3 hTN.2.2.1, ⟨b2, sl2, hgT.blk h4 hTN.2.2.2.1⟩, hgT.blk h5 hTN.2.2.2.2, Gs.below h6 hgT (fun k e => by rw [e]; exact hTW), h7⟩
          have HN6 := Lib.hid hn6
          have HB8 := Lib.hid (blk_setRow hb8 TL)
          refine ⟨(show Blk _ B 39 (putC x (.slice ba x.b.length bc)) ∧ Blk _ RS 26 _ from ⟨HN6.out.b, HN6.out.rs⟩), ?_⟩
          obtain ⟨v6, hv6⟩ : ∃ v, v = v5.setRow T TL.toArray := ⟨_, rfl⟩
          rw [← hv6] at HN6 HB8 ⊢
          clear hn6 hgT hb8 hv6
          refine wpAnyH_done (by kernel_rfl) ?_ _
          rw [HF7.out, HF6.out, HF5.out, HF4.out, HF3.out, HF2.out, HF1.out, HA.out]
          simp only [Act.put, List.setIfInBounds_toArray, List.set_cons_succ, List.set_cons_zero]
          clear HF7 HF6 HF5 HF4 HF3 HF2 HF1 HA z5 z4 z3 z2 z1 z0 e36_5 e37_5 HS e8 e38
          have HTN := Lib.hid hTN
          clear hTN hTW
          have cr : v6.cell? ⟨RS, 0, none⟩ = some (.pointer none) := HN6.out.rs.cell 0
          go_wp2_with (first
            | (go_at_call 27; refine (spoil_N _ (.inl rfl) HN6.out).mono ?_; rintro e v7 ⟨rfl, hn7, hg7⟩; (have HN7 := Lib.hid hn7); (have HB9 := Lib.hid (hg7.blk HB8.out HTN.out.2.2.2.1.symm)); (have cr7 : v7.cell? ⟨RS, 0, none⟩ = some (.pointer none) := hn7.rs.cell 0); clear hn7 hg7)
            | (go_at_call 20; refine (err_N _ (.inl rfl) HN7.out).mono ?_; rintro e v8 ⟨rfl, rfl⟩)
            | (have _t := HB9; refine wpList_load_rowG 36 (.tmp 8) rfl T rfl 36 _ (.struct ft) HB9.out HFT.out rfl HTS.out rfl ?_)
            | (have _t := HB9; refine wpList_valG (.bool false) (bo1 (x := .tmp 52) (y := .tmp 53) rfl rfl (congrArg Value.agg HLIT.out).symm (run_eqGuard_agg _ _ _ _ _ _ _ (by kernel_rfl)) (HNQ.out _)) rfl ?_))
          go_roundw
          case rel => exact ⟨1, by omega, by go_num, HN7.out⟩
          case measure => simp [intOf]
      · obtain rfl : k = 1 := by omega
        have HN0 := Lib.hid (hn.qt (Qt.refl _).drew)
        clear hn
        go_wp2_with fail
        refine wp_region_held (S := (fun v => Blk v B 39 (putC x (.slice ba x.b.length bc)) ∧ Blk v AS 42 [.pointer none, .pointer (some ⟨A, 0, none⟩)])) (by kernel_rfl) ?_
        change wpAnyH _ _ _ _ _ _ _ _ (World.drew _)
        refine genH fun F0 hA => ?_
        have z0 : F0.tmps.size = 65 := by rw [hA]; rfl
        have e1_0 : F0.eval (.tmp 1) = .pointer (some ⟨B, 0, none⟩) := by rw [hA]; rfl
        have e3_0 : F0.eval (.tmp 3) = .slice (some ⟨AS, 0, none⟩) 2 2 := by rw [hA]; rfl
        have e5_0 : F0.eval (.tmp 5) = .int .i64 ((1 : Nat) : Int) := by rw [hA]; rfl
        have HA := Lib.hid hA
        clear hA
        have HS := Lib.hid (show Blk _ B 39 (putC x (.slice ba x.b.length bc)) ∧ Blk _ AS 42 _ from ⟨HN0.out.b, HN0.out.ws⟩)
        refine tkH (i := 0) (oi := _) (v := .slice (some ⟨AS, 0, none⟩) 2 2) rfl (by kernel_rfl) (by kernel_rfl) (by kernel_rfl) (fun _ _ _ h => h) HS.out (wantedN rfl) (fun w _ => mv1 rfl e3_0 w) ?_
        intro F1 hF
        replace hF : F1 = F0.put (some 19) (.slice (some ⟨AS, 0, none⟩) 2 2) := hF
        have z1 : F1.tmps.size = 65 := by rw [hF]; simpa [Act.put] using z0
        have e1_1 := (show F1.eval (.tmp 1) = F0.eval (.tmp 1) by rw [hF]; exact evO (by decide)).trans e1_0
        have e5_1 := (show F1.eval (.tmp 5) = F0.eval (.tmp 5) by rw [hF]; exact evO (by decide)).trans e5_0
        have e19_1 : F1.eval (.tmp 19) = .slice (some ⟨AS, 0, none⟩) 2 2 := by rw [hF]; exact evS (by rw [z0]; decide)
        have HF1 := Lib.hid hF
        clear hF e1_0 e3_0 e5_0
        refine tkH (i := 1) (oi := _) (v := .int .i64 ((1 : Nat) : Int)) rfl (by kernel_rfl) (by kernel_rfl) (by kernel_rfl) (fun _ _ _ h => h) HS.out (wantedN rfl) (fun w _ => mv1 rfl e5_1 w) ?_
        intro F2 hF
        replace hF : F2 = F1.put (some 20) (.int .i64 ((1 : Nat) : Int)) := hF
        have z2 : F2.tmps.size = 65 := by rw [hF]; simpa [Act.put] using z1
        have e1_2 := (show F2.eval (.tmp 1) = F1.eval (.tmp 1) by rw [hF]; exact evO (by decide)).trans e1_1
        have e19_2 := (show F2.eval (.tmp 19) = F1.eval (.tmp 19) by rw [hF]; exact evO (by decide)).trans e19_1
        have e20_2 : F2.eval (.tmp 20) = .int .i64 ((1 : Nat) : Int) := by rw [hF]; exact evS (by rw [z1]; decide)
        have HF2 := Lib.hid hF
        clear hF e1_1 e5_1 e19_1
        refine tkH (i := 2) (oi := _) (v := .pointer (some ⟨AS, 1, none⟩)) rfl (by kernel_rfl) (by kernel_rfl) (by kernel_rfl) (fun _ _ _ h => h) HS.out (wantedN rfl) (fun w _ => ia1 rfl e19_2 e20_2 (by go_simp)) ?_
        intro F3 hF
        replace hF : F3 = F2.put (some 21) (.pointer (some ⟨AS, 1, none⟩)) := hF
        have z3 : F3.tmps.size = 65 := by rw [hF]; simpa [Act.put] using z2
        have e1_3 := (show F3.eval (.tmp 1) = F2.eval (.tmp 1) by rw [hF]; exact evO (by decide)).trans e1_2
        have e21_3 : F3.eval (.tmp 21) = .pointer (some ⟨AS, 1, none⟩) := by rw [hF]; exact evS (by rw [z2]; decide)
        have HF3 := Lib.hid hF
        clear hF e1_2 e19_2 e20_2
        refine tkH (i := 3) (oi := _) (v := .pointer (some ⟨A, 0, none⟩)) rfl (by kernel_rfl) (by kernel_rfl) (by kernel_rfl) (fun _ _ _ h => h) HS.out (wantedN rfl) (fun w hs => ld1 rfl e21_3 (by have c := (Blk.cell hs.2 1).trans (rfl : _ = some (.pointer (some ⟨A, 0, none⟩) : Value)); go_simp)) ?_
        intro F4 hF
        replace hF : F4 = F3.put (some 22) (.pointer (some ⟨A, 0, none⟩)) := hF
        have z4 : F4.tmps.size = 65 := by rw [hF]; simpa [Act.put] using z3
        have e1_4 := (show F4.eval (.tmp 1) = F3.eval (.tmp 1) by rw [hF]; exact evO (by decide)).trans e1_3
        have e22_4 : F4.eval (.tmp 22) = .pointer (some ⟨A, 0, none⟩) := by rw [hF]; exact evS (by rw [z3]; decide)
        have HF4 := Lib.hid hF
        clear hF e1_3 e21_3
        refine tkH (i := 4) (oi := _) (v := .agg (putC x (.slice ba x.b.length bc)).toArray) rfl (by kernel_rfl) (by kernel_rfl) (by kernel_rfl) (fun _ _ _ h => h) HS.out (wantedN rfl) (fun w hs => ldRow rfl e1_4 (blk_range hs.1) (d := .struct fs) HFS.out rfl (by rw [H37.out]; kernel_rfl)) ?_
        intro F5 hF
        replace hF : F5 = F4.put (some 23) (.agg (putC x (.slice ba x.b.length bc)).toArray) := hF
        have z5 : F5.tmps.size = 65 := by rw [hF]; simpa [Act.put] using z4
        have e22_5 := (show F5.eval (.tmp 22) = F4.eval (.tmp 22) by rw [hF]; exact evO (by decide)).trans e22_4
        have e23_5 : F5.eval (.tmp 23) = .agg (putC x (.slice ba x.b.length bc)).toArray := by rw [hF]; exact evS (by rw [z4]; decide)
        have HF5 := Lib.hid hF
        clear hF e1_4 e22_4
        refine clH (i := 5) (oi := _) rfl (by kernel_rfl) (wantedN rfl) 14 #[.pointer (some ⟨A, 0, none⟩), .agg (putC x (.slice ba x.b.length bc)).toArray] (clF rfl (by simp only [List.map_toArray, List.map_cons, List.map_nil, e22_5, e23_5] <;> rfl) (fun args w => by kernel_rfl)) (.tuple #[]) (fun w' => NilS W w' B A AS R RS (putC x (.slice ba x.b.length bc))) (put_N _ (.inr rfl) x (.slice ba x.b.length bc) HN0.out HX.out HB.out) ?_
        intro w2 F6 hF hn2
        replace hF : F6 = F5.put (some 24) (.tuple #[]) := hF
        have HN2 := Lib.hid hn2
        clear hn2
        refine ⟨(show Blk _ B 39 (putC x (.slice ba x.b.length bc)) ∧ Blk _ AS 42 _ from ⟨HN2.out.b, HN2.out.ws⟩), ?_⟩
        have HS := Lib.hid ((show Blk _ B 39 (putC x (.slice ba x.b.length bc)) ∧ Blk _ AS 42 _ from ⟨HN2.out.b, HN2.out.ws⟩))
        have z6 : F6.tmps.size = 65 := by rw [hF]; simpa [Act.put] using z5
        have HF6 := Lib.hid hF
        clear hF e22_5 e23_5
        refine wpAnyH_done (by kernel_rfl) ?_ _
        rw [HF6.out, HF5.out, HF4.out, HF3.out, HF2.out, HF1.out, HA.out]
        simp only [Act.put, List.setIfInBounds_toArray, List.set_cons_succ, List.set_cons_zero]
        clear HF6 HF5 HF4 HF3 HF2 HF1 HA z6 z5 z4 z3 z2 z1 z0 
        have cw1 : w2.cell? ⟨AS, 1, none⟩ = some (.pointer (some ⟨A, 0, none⟩)) := HN2.out.ws.cell 1
        go_wp2_with (go_at_call 16; refine (bytes_N _ (.inr rfl) HN2.out).mono ?_; rintro e w3 ⟨rfl, rfl⟩)
        have HN3 := Lib.hid (HN2.out.qt (Qt.refl _).drew)
        refine wp_region_held (S := (fun v => Blk v B 39 (putC x (.slice ba x.b.length bc)) ∧ Blk v RS 26 [.pointer none, .pointer (some ⟨R, 0, none⟩)])) (by kernel_rfl) ?_
        change wpAnyH _ _ _ _ _ _ _ _ (World.drew _)
        refine genH fun F0 hA => ?_
        have z0 : F0.tmps.size = 65 := by rw [hA]; rfl
        have e1_0 : F0.eval (.tmp 1) = .pointer (some ⟨B, 0, none⟩) := by rw [hA]; rfl
        have e4_0 : F0.eval (.tmp 4) = .slice (some ⟨RS, 0, none⟩) 2 2 := by rw [hA]; rfl
        have e5_0 : F0.eval (.tmp 5) = .int .i64 ((1 : Nat) : Int) := by rw [hA]; rfl
        have HA := Lib.hid hA
        clear hA
        have HS := Lib.hid (show Blk _ B 39 (putC x (.slice ba x.b.length bc)) ∧ Blk _ RS 26 _ from ⟨HN3.out.b, HN3.out.rs⟩)
        refine tkH (i := 0) (oi := _) (v := .slice (some ⟨RS, 0, none⟩) 2 2) rfl (by kernel_rfl) (by kernel_rfl) (by kernel_rfl) (fun _ _ _ h => h) HS.out (wantedN rfl) (fun w _ => mv1 rfl e4_0 w) ?_
        intro F1 hF
        replace hF : F1 = F0.put (some 33) (.slice (some ⟨RS, 0, none⟩) 2 2) := hF
        have z1 : F1.tmps.size = 65 := by rw [hF]; simpa [Act.put] using z0
        have e1_1 := (show F1.eval (.tmp 1) = F0.eval (.tmp 1) by rw [hF]; exact evO (by decide)).trans e1_0
        have e5_1 := (show F1.eval (.tmp 5) = F0.eval (.tmp 5) by rw [hF]; exact evO (by decide)).trans e5_0
        have e33_1 : F1.eval (.tmp 33) = .slice (some ⟨RS, 0, none⟩) 2 2 := by rw [hF]; exact evS (by rw [z0]; decide)
        have HF1 := Lib.hid hF
        clear hF e1_0 e4_0 e5_0
        refine tkH (i := 1) (oi := _) (v := .int .i64 ((1 : Nat) : Int)) rfl (by kernel_rfl) (by kernel_rfl) (by kernel_rfl) (fun _ _ _ h => h) HS.out (wantedN rfl) (fun w _ => mv1 rfl e5_1 w) ?_
        intro F2 hF
        replace hF : F2 = F1.put (some 34) (.int .i64 ((1 : Nat) : Int)) := hF
        have z2 : F2.tmps.size = 65 := by rw [hF]; simpa [Act.put] using z1
        have e1_2 := (show F2.eval (.tmp 1) = F1.eval (.tmp 1) by rw [hF]; exact evO (by decide)).trans e1_1
        have e33_2 := (show F2.eval (.tmp 33) = F1.eval (.tmp 33) by rw [hF]; exact evO (by decide)).trans e33_1
        have e34_2 : F2.eval (.tmp 34) = .int .i64 ((1 : Nat) : Int) := by rw [hF]; exact evS (by rw [z1]; decide)
        have HF2 := Lib.hid hF
        clear hF e1_1 e5_1 e33_1
        refine tkH (i := 2) (oi := _) (v := .pointer (some ⟨RS, 1, none⟩)) rfl (by kernel_rfl) (by kernel_rfl) (by kernel_rfl) (fun _ _ _ h => h) HS.out (wantedN rfl) (fun w _ => ia1 rfl e33_2 e34_2 (by go_simp)) ?_
        intro F3 hF
        replace hF : F3 = F2.put (some 35) (.pointer (some ⟨RS, 1, none⟩)) := hF
        have z3 : F3.tmps.size = 65 := by rw [hF]; simpa [Act.put] using z2
        have e1_3 := (show F3.eval (.tmp 1) = F2.eval (.tmp 1) by rw [hF]; exact evO (by decide)).trans e1_2
        have e35_3 : F3.eval (.tmp 35) = .pointer (some ⟨RS, 1, none⟩) := by rw [hF]; exact evS (by rw [z2]; decide)
        have HF3 := Lib.hid hF
        clear hF e1_2 e33_2 e34_2
        refine tkH (i := 3) (oi := _) (v := .pointer (some ⟨R, 0, none⟩)) rfl (by kernel_rfl) (by kernel_rfl) (by kernel_rfl) (fun _ _ _ h => h) HS.out (wantedN rfl) (fun w hs => ld1 rfl e35_3 (by have c := (Blk.cell hs.2 1).trans (rfl : _ = some (.pointer (some ⟨R, 0, none⟩) : Value)); go_simp)) ?_
        intro F4 hF
        replace hF : F4 = F3.put (some 36) (.pointer (some ⟨R, 0, none⟩)) := hF
        have z4 : F4.tmps.size = 65 := by rw [hF]; simpa [Act.put] using z3
        have e1_4 := (show F4.eval (.tmp 1) = F3.eval (.tmp 1) by rw [hF]; exact evO (by decide)).trans e1_3
        have e36_4 : F4.eval (.tmp 36) = .pointer (some ⟨R, 0, none⟩) := by rw [hF]; exact evS (by rw [z3]; decide)
        have HF4 := Lib.hid hF
        clear hF e1_3 e35_3
        refine tkH (i := 4) (oi := _) (v := .agg (putC x (.slice ba x.b.length bc)).toArray) rfl (by kernel_rfl) (by kernel_rfl) (by kernel_rfl) (fun _ _ _ h => h) HS.out (wantedN rfl) (fun w hs => ldRow rfl e1_4 (blk_range hs.1) (d := .struct fs) HFS.out rfl (by rw [H37.out]; kernel_rfl)) ?_
        intro F5 hF
        replace hF : F5 = F4.put (some 37) (.agg (putC x (.slice ba x.b.length bc)).toArray) := hF
        have z5 : F5.tmps.size = 65 := by rw [hF]; simpa [Act.put] using z4
        have e36_5 := (show F5.eval (.tmp 36) = F4.eval (.tmp 36) by rw [hF]; exact evO (by decide)).trans e36_4
        have e37_5 : F5.eval (.tmp 37) = .agg (putC x (.slice ba x.b.length bc)).toArray := by rw [hF]; exact evS (by rw [z4]; decide)
        have HF5 := Lib.hid hF
        clear hF e1_4 e36_4
        obtain ⟨V, hV⟩ : ∃ V, V = World.drew w2 := ⟨_, rfl⟩
        rw [← hV] at HN3 ⊢
        clear hV
        refine allH2 (i := 5) (k := 6) (by kernel_rfl) ?_ ?_
        · refine clO (i := 5) (oi := _) rfl (wantedN rfl) 11 #[.pointer (some ⟨R, 0, none⟩), .agg (putC x (.slice ba x.b.length bc)).toArray] (clF rfl (by simp only [List.map_toArray, List.map_cons, List.map_nil, e36_5, e37_5] <;> rfl) (fun args w => by kernel_rfl)) (.agg TL.toArray) (fun w' => NilS W w' B A AS R RS (putC x (.slice ba x.b.length bc)) ∧ Gs (fun k => k = R) V w') (tells_N TL HTL.out _ (.inr rfl) x (.slice ba x.b.length bc) HN3.out HX.out) ?_
          intro w4 F6 hF ⟨hn4, hg4⟩
          replace hF : F6 = F5.put (some 38) (.agg TL.toArray) := hF
          have HN4 := Lib.hid hn4
          refine ⟨(show Blk _ B 39 (putC x (.slice ba x.b.length bc)) ∧ Blk _ RS 26 _ from ⟨HN4.out.b, HN4.out.rs⟩), ?_⟩
          refine allH1 (i := 6) (by kernel_rfl) ?_
          refine alO (oi := _) rfl rfl _ _ (alRun _ _ rfl _) ?_
          intro F7 hF7
          replace hF7 : F7 = F6.put (some 8) (.pointer (some ⟨w4.heap.size, 0, none⟩)) := hF7
          have HN5 := Lib.hid (HN4.out.qt ((Qt.refl w4).alloc (.cells toldZ.toArray 36)))
          refine ⟨(show Blk _ B 39 (putC x (.slice ba x.b.length bc)) ∧ Blk _ RS 26 _ from ⟨HN5.out.b, HN5.out.rs⟩), ?_⟩
          have hb8 := blk_new w4 w4.heap.size 36 toldZ rfl
          have z6 : F6.tmps.size = 65 := by rw [hF]; simpa [Act.put] using z5
          have e8 : F7.eval (.tmp 8) = .pointer (some ⟨w4.heap.size, 0, none⟩) := by rw [hF7]; exact evS (by rw [z6]; decide)
          have e38 : F7.eval (.tmp 38) = .agg TL.toArray := by rw [hF7]; exact (evO (by decide)).trans (by rw [hF]; exact evS (by rw [z5]; decide))
          obtain ⟨T, hT⟩ : ∃ T, T = w4.heap.size := ⟨_, rfl⟩
          have hTW : W.heap.size ≤ T := by rw [hT]; exact HN4.out.q.size
          rw [← hT] at hb8 e8 hF7
          obtain ⟨v5, hv5⟩ : ∃ v, v = w4.alloc (.cells toldZ.toArray 36) := ⟨_, rfl⟩
          rw [← hv5] at hb8 HN5 ⊢
          have hTN : B ≠ T ∧ A ≠ T ∧ AS ≠ T ∧ R ≠ T ∧ RS ≠ T := by
            rw [hT]
            obtain ⟨_, _, hwa⟩ := HN4.out.wa
            obtain ⟨_, _, hra⟩ := HN4.out.ra
            have h1 := HN4.out.b.lt
            have h2 := hwa.lt
            have h3 := HN4.out.ws.lt
            have h4 := hra.lt
            have h5 := HN4.out.rs.lt
            omega
          have HF6 := Lib.hid hF
          have HF7 := Lib.hid hF7
          clear hF hF7 hT hv5 hn4 hg4 z6
          refine stH1 (i := 7) (oi := _) rfl (by kernel_rfl) rfl rfl (v5.setRow T TL.toArray) (stRow rfl e8 e38 hb8 HTS.out (by rw [HTL.out]; rfl) HTO.out) ?_
          have hgT : Gs (fun k => k = T) v5 (v5.setRow T TL.toArray) := Gs.of_og (og_setRow (Og.refl T v5) (.inl rfl) _) rfl
          have hn6 : NilS W (v5.setRow T TL.toArray) B A AS R RS (putC x (.slice ba x.b.length bc)) := by
            obtain ⟨h1, ⟨b, sl, h2⟩, h3, ⟨b2, sl2, h4⟩, h5, h6, h7⟩ := HN5.out
            exact ⟨hgT.blk h1 hTN.1, ⟨b, sl, hgT.blk h2 hTN.2.1⟩, hgT.blk h3 hTN.2.2.1, ⟨b2, sl2, hgT.blk h4 hTN.2.2.2.1⟩, hgT.blk h5 hTN.2.2.2.2, Gs.below h6 hgT (fun k e => by rw [e]; exact hTW), h7⟩
          have HN6 := Lib.hid hn6
          have HB8 := Lib.hid (blk_setRow hb8 TL)
          refine ⟨(show Blk _ B 39 (putC x (.slice ba x.b.length bc)) ∧ Blk _ RS 26 _ from ⟨HN6.out.b, HN6.out.rs⟩), ?_⟩
          obtain ⟨v6, hv6⟩ : ∃ v, v = v5.setRow T TL.toArray := ⟨_, rfl⟩
          rw [← hv6] at HN6 HB8 ⊢
          clear hn6 hgT hb8 hv6
          refine wpAnyH_done (by kernel_rfl) ?_ _
          rw [HF7.out, HF6.out, HF5.out, HF4.out, HF3.out, HF2.out, HF1.out, HA.out]
          simp only [Act.put, List.setIfInBounds_toArray, List.set_cons_succ, List.set_cons_zero]
          clear HF7 HF6 HF5 HF4 HF3 HF2 HF1 HA z5 z4 z3 z2 z1 z0 e36_5 e37_5 HS e8 e38
          have HTN := Lib.hid hTN
          clear hTN hTW
          have cr : v6.cell? ⟨RS, 1, none⟩ = some (.pointer (some ⟨R, 0, none⟩)) := HN6.out.rs.cell 1
          go_wp2_with (first
            | (go_at_call 27; refine (spoil_N _ (.inr rfl) HN6.out).mono ?_; rintro e v7 ⟨rfl, hn7, hg7⟩; (have HN7 := Lib.hid hn7); (have HB9 := Lib.hid (hg7.blk HB8.out HTN.out.2.2.2.1.symm)); (have cr7 : v7.cell? ⟨RS, 1, none⟩ = some (.pointer (some ⟨R, 0, none⟩)) := hn7.rs.cell 1); clear hn7 hg7)
            | (go_at_call 20; refine (err_N _ (.inr rfl) HN7.out).mono ?_; rintro e v8 ⟨rfl, rfl⟩)
            | (have _t := HB9; refine wpList_load_rowG 36 (.tmp 8) rfl T rfl 36 _ (.struct ft) HB9.out HFT.out rfl HTS.out rfl ?_)
            | (have _t := HB9; refine wpList_valG (.bool false) (bo1 (x := .tmp 52) (y := .tmp 53) rfl rfl (congrArg Value.agg HLIT.out).symm (run_eqGuard_agg _ _ _ _ _ _ _ (by kernel_rfl)) (HNQ.out _)) rfl ?_))
          go_roundw
          case rel => exact ⟨2, by omega, by go_num, HN7.out⟩
          case measure => simp [intOf]
        · refine alO (i := 6) (oi := _) rfl rfl _ _ (alRun _ _ rfl _) ?_
          intro F6 hF
          replace hF : F6 = F5.put (some 8) (.pointer (some ⟨V.heap.size, 0, none⟩)) := hF
          have HN4 := Lib.hid (HN3.out.qt ((Qt.refl V).alloc (.cells toldZ.toArray 36)))
          refine ⟨(show Blk _ B 39 (putC x (.slice ba x.b.length bc)) ∧ Blk _ RS 26 _ from ⟨HN4.out.b, HN4.out.rs⟩), ?_⟩
          have hb8 := blk_new V V.heap.size 36 toldZ rfl
          obtain ⟨T, hT⟩ : ∃ T, T = V.heap.size := ⟨_, rfl⟩
          have hTW : W.heap.size ≤ T := by rw [hT]; exact HN3.out.q.size
          have hTN : B ≠ T ∧ A ≠ T ∧ AS ≠ T ∧ R ≠ T ∧ RS ≠ T := by
            rw [hT]
            obtain ⟨_, _, hwa⟩ := HN3.out.wa
            obtain ⟨_, _, hra⟩ := HN3.out.ra
            have h1 := HN3.out.b.lt
            have h2 := hwa.lt
            have h3 := HN3.out.ws.lt
            have h4 := hra.lt
            have h5 := HN3.out.rs.lt
            omega
          rw [← hT] at hb8 hF
          obtain ⟨v4, hv4⟩ : ∃ v, v = V.alloc (.cells toldZ.toArray 36) := ⟨_, rfl⟩
          rw [← hv4] at hb8 HN4 ⊢
          have z6 : F6.tmps.size = 65 := by rw [hF]; simpa [Act.put] using z5
          have e36 : F6.eval (.tmp 36) = .pointer (some ⟨R, 0, none⟩) := by rw [hF]; exact (evO (by decide)).trans e36_5
          have e37 : F6.eval (.tmp 37) = .agg (putC x (.slice ba x.b.length bc)).toArray := by rw [hF]; exact (evO (by decide)).trans e37_5
          have e8' : F6.eval (.tmp 8) = .pointer (some ⟨T, 0, none⟩) := by rw [hF]; exact evS (by rw [z5]; decide)
          refine allH1 (i := 5) (by kernel_rfl) ?_
          refine clO (oi := _) rfl (wantedN rfl) 11 #[.pointer (some ⟨R, 0, none⟩), .agg (putC x (.slice ba x.b.length bc)).toArray] (clF rfl (by simp only [List.map_toArray, List.map_cons, List.map_nil, e36, e37] <;> rfl) (fun args w => by kernel_rfl)) (.agg TL.toArray) (fun w' => NilS W w' B A AS R RS (putC x (.slice ba x.b.length bc)) ∧ Gs (fun k => k = R) v4 w') (tells_N TL HTL.out _ (.inr rfl) x (.slice ba x.b.length bc) HN4.out HX.out) ?_
          intro v5 F7 hF7 ⟨hn5, hg5⟩
          replace hF7 : F7 = F6.put (some 38) (.agg TL.toArray) := hF7
          have HN5 := Lib.hid hn5
          refine ⟨(show Blk _ B 39 (putC x (.slice ba x.b.length bc)) ∧ Blk _ RS 26 _ from ⟨HN5.out.b, HN5.out.rs⟩), ?_⟩
          replace hb8 := hg5.blk hb8 hTN.2.2.2.1.symm
          have e8 : F7.eval (.tmp 8) = .pointer (some ⟨T, 0, none⟩) := by rw [hF7]; exact (evO (by decide)).trans e8'
          have e38 : F7.eval (.tmp 38) = .agg TL.toArray := by rw [hF7]; exact evS (by rw [z6]; decide)
          have HF6 := Lib.hid hF
          have HF7 := Lib.hid hF7
          clear hF hF7 hT hv4 hn5 hg5 z6 e36 e37 e8'
          refine stH1 (i := 7) (oi := _) rfl (by kernel_rfl) rfl rfl (v5.setRow T TL.toArray) (stRow rfl e8 e38 hb8 HTS.out (by rw [HTL.out]; rfl) HTO.out) ?_
          have hgT : Gs (fun k => k = T) v5 (v5.setRow T TL.toArray) := Gs.of_og (og_setRow (Og.refl T v5) (.inl rfl) _) rfl
          have hn6 : NilS W (v5.setRow T TL.toArray) B A AS R RS (putC x (.slice ba x.b.length bc)) := by
            obtain ⟨h1, ⟨b, sl, h2⟩, h3, ⟨b2, sl2, h4⟩, h5, h6, h7⟩ := HN5.out
            exact ⟨hgT.blk h1 hTN.1, ⟨b, sl, hgT.blk h2 hTN.2.1⟩, hgT.blk h3 hTN.2.2.1, ⟨b2, sl2, hgT.blk h4 hTN.2.2.2.1⟩, hgT.blk h5 hTN.2.2.2.2, Gs.below h6 hgT (fun k e => by rw [e]; exact hTW), h7⟩
          have HN6 := Lib.hid hn6
          have HB8 := Lib.hid (blk_setRow hb8 TL)
          refine ⟨(show Blk _ B 39 (putC x (.slice ba x.b.length bc)) ∧ Blk _ RS 26 _ from ⟨HN6.out.b, HN6.out.rs⟩), ?_⟩
          obtain ⟨v6, hv6⟩ : ∃ v, v = v5.setRow T TL.toArray := ⟨_, rfl⟩
          rw [← hv6] at HN6 HB8 ⊢
          clear hn6 hgT hb8 hv6
          refine wpAnyH_done (by kernel_rfl) ?_ _
          rw [HF7.out, HF6.out, HF5.out, HF4.out, HF3.out, HF2.out, HF1.out, HA.out]
          simp only [Act.put, List.setIfInBounds_toArray, List.set_cons_succ, List.set_cons_zero]
          clear HF7 HF6 HF5 HF4 HF3 HF2 HF1 HA z5 z4 z3 z2 z1 z0 e36_5 e37_5 HS e8 e38
          have HTN := Lib.hid hTN
          clear hTN hTW
          have cr : v6.cell? ⟨RS, 1, none⟩ = some (.pointer (some ⟨R, 0, none⟩)) := HN6.out.rs.cell 1
          go_wp2_with (first
            | (go_at_call 27; refine (spoil_N _ (.inr rfl) HN6.out).mono ?_; rintro e v7 ⟨rfl, hn7, hg7⟩; (have HN7 := Lib.hid hn7); (have HB9 := Lib.hid (hg7.blk HB8.out HTN.out.2.2.2.1.symm)); (have cr7 : v7.cell? ⟨RS, 1, none⟩ = some (.pointer (some ⟨R, 0, none⟩)) := hn7.rs.cell 1); clear hn7 hg7)
            | (go_at_call 20; refine (err_N _ (.inr rfl) HN7.out).mono ?_; rintro e v8 ⟨rfl, rfl⟩)
            | (have _t := HB9; refine wpList_load_rowG 36 (.tmp 8) rfl T rfl 36 _ (.struct ft) HB9.out HFT.out rfl HTS.out rfl ?_)
            | (have _t := HB9; refine wpList_valG (.bool false) (bo1 (x := .tmp 52) (y := .tmp 53) rfl rfl (congrArg Value.agg HLIT.out).symm (run_eqGuard_agg _ _ _ _ _ _ _ (by kernel_rfl)) (HNQ.out _)) rfl ?_))
          go_roundw
          case rel => exact ⟨2, by omega, by go_num, HN7.out⟩
          case measure => simp [intOf]
    · obtain rfl : k = 2 := by omega
      have HN := Lib.hid hn
      clear hn
      go_wp2_with (go_at_call 9; refine (awake_any _).mono ?_; rintro e w9 ⟨rfl, q⟩)
      go_ret
      exact ⟨rfl, HN.out.q.trans q⟩
end Go.Proofs.Ytajkmblcphdnbaa
