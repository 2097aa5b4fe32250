import Derived.Test.YtajkmblcphdnbaaGreatVU
import Derived.Test.YtajkmblcphdnbaaGreatVW
import Derived.Laws.Rows
import Derived.Deep.MidRow
import Derived.OrdersHeld
import Derived.Great.BuildSlice
import Derived.Deep.OwnRows
/-! WireEnds: its words and its walk, joined by mkv8.py out of V4, V6, V7, V5. -/
namespace Go.Proofs.YtajkmblcphdnbaaGreat
open Go.RowKit
set_option linter.unusedVariables false
set_option linter.unusedSimpArgs false

theorem flat37 (l : List (PutD × Value)) (h : ∀ x ∈ l, x.1.h.length = 32) (j : Nat) (x : PutD × Value) (hx : l[j]? = some x) (i : Nat) (v : Value) (hv : (putC x.1 x.2)[i]? = some v) : ((l.map fun x => putC x.1 x.2).flatten)[j * 37 + i]? = some v := by
  induction l generalizing j with
  | nil => simp at hx
  | cons y r ih =>
    have hy := putC_lenU y.1 y.2 (h y (by simp))
    rw [List.map_cons, List.flatten_cons]
    cases j with
    | zero =>
      simp at hx
      subst hx
      have hi := (List.getElem?_eq_some_iff.1 hv).1
      rw [Nat.zero_mul, Nat.zero_add, List.getElem?_append_left hi]
      exact hv
    | succ j =>
      rw [List.getElem?_append_right (by rw [hy]; omega), hy, show (j + 1) * 37 + i - 37 = j * 37 + i from by omega]
      exact ih (fun x hx => h x (List.mem_cons_of_mem _ hx)) j (by simpa using hx)
theorem puts_blk {w : World} {g : Nat} {t : TypeId} (l : List (PutD × Value)) (hb : Blk w g t ((l.map fun x => putC x.1 x.2).flatten)) (hok : ∀ x ∈ l, x.1.Ok ∧ Rd w x.2 x.1.b.length (u8s x.1.b)) (hl : l.length ≤ 100) : Puts w (.slice (some ⟨g, 0, none⟩) l.length l.length) l := by
  refine ⟨some ⟨g, 0, none⟩, l.length, rfl, Nat.le_refl _, ⟨by omega, by omega⟩, hok, .inr ⟨g, 0, rfl, fun j x hx i v hv => ?_⟩⟩
  have := flat37 l (fun x hx => (hok x hx).1.h32) j x hx i v hv
  rw [show 0 + j * 37 + i = j * 37 + i from by omega, hb.cell]
  exact this
theorem rd_nil (w : World) : Rd w (.slice none 0 0) 0 (u8s []) := ⟨none, 0, rfl, Nat.le_refl _, .inl rfl⟩
/-- A call of numbers alone. -/
def pd (k n : Int) (s : List Nat) : PutD := ⟨k, n, 0, Z32, [], s⟩
theorem pd_ok (k n : Int) (s : List Nat) (h0 : -9223372036854775808 ≤ k) (h1 : k < 9223372036854775808) (h2 : -9223372036854775808 ≤ n) (h3 : n < 9223372036854775808) (hs : ∀ z ∈ s, z < 256) (hl : s.length ≤ 140737488351232) : (pd k n s).Ok :=
  ⟨h0, h1, h2, h3, by show (0 : Nat) < _; omega, Z32_len, by intro z hz; unfold pd Z32 at hz; simp at hz; omega, (fun z hz => by cases hz), hs, hl, by show (0 : Nat) ≤ _; omega⟩
/-- A slice of bytes that was just made. -/
theorem sl_blk {w : World} {g : Nat} {t : TypeId} (l : List Nat) (c : Nat) (cs : List Value) (hb : Blk w g t (u8s l ++ cs)) (hc : l.length ≤ c) (hl : c ≤ 100000) : Sl w (.slice (some ⟨g, 0, none⟩) l.length c) l := by
  refine .inr ⟨g, 0, c, rfl, hc, ⟨by omega, by omega⟩, fun j y hy => ?_⟩
  have hj := (List.getElem?_eq_some_iff.1 hy).1
  rw [Nat.zero_add, hb.cell, List.getElem?_append_left (by rw [u8s_len]; exact hj), u8s, List.getElem?_map, hy]
  rfl
end Go.Proofs.YtajkmblcphdnbaaGreat
namespace Go.Proofs.YtajkmblcphdnbaaGreat
open Go.RowKit
set_option linter.unusedVariables false
set_option linter.unusedSimpArgs false

theorem qtOg {a : Nat} {w w' : World} (h : Qt w w') : Og a w w' := ⟨h.os, h.tape, h.output, h.size, fun k hk _ => h.block k hk⟩
/-- Only a block that was not there has turned. -/
theorem Og.qt {a : Nat} {w0 w w' : World} (h : Og a w w') (q : Qt w0 w) (ha : w0.heap.size ≤ a) : Qt w0 w' :=
  ⟨h.os.trans q.os, h.tape.trans q.tape, h.output.trans q.output, Nat.le_trans q.size h.size, fun k hk => (h.block k (Nat.lt_of_lt_of_le hk q.size) (fun e => by cases e; omega)).trans (q.block k hk)⟩

theorem Blk.grown {w w' : World} {a : Nat} {t : TypeId} {c : List Value} {r : Option Nat} (h : Blk w a t c) (q : w.grownBy w' r) (hne : some a ≠ r) : Blk w' a t c := by
  have := q.block a h.lt hne
  unfold Blk at *; rw [this, h]
/-- So many cells from one on. -/
theorem Blk.range {w : World} {a : Nat} {t : TypeId} {c : List Value} (h : Blk w a t c) (o : Nat) (cs : List Value) (hcs : (c.drop o).take cs.length = cs) : w.rangeAt a o cs := by
  intro i u hu
  have hi : i < cs.length := (List.getElem?_eq_some_iff.1 hu).1
  have hu' : ((c.drop o).take cs.length)[i]? = some u := by rw [hcs]; exact hu
  rw [List.getElem?_take_of_lt hi, List.getElem?_drop] at hu'
  rw [h.cell]; exact hu'
theorem set_many (b : Nat) : ∀ (vs : List Value) (o : Nat) (w : World) (t : TypeId) (c : List Value), Blk w b t c → Blk (w.setCells b o vs) b t (c.take o ++ vs ++ c.drop (o + vs.length)) ∨ c.length < o + vs.length
  | [], o, w, t, c, h => by
    left
    simp only [World.setCells, List.append_nil, List.length_nil, Nat.add_zero, List.take_append_drop]
    exact h
  | v :: vs, o, w, t, c, h => by
    by_cases hl : c.length < o + (v :: vs).length
    · exact .inr hl
    · left
      rw [World.setCells]
      have h1 := (set_many b vs (o + 1) _ t _ (h.set o v)).resolve_right (by rw [List.length_set]; simp at hl; omega)
      refine Eq.mp (congrArg (Blk _ b t) ?_) h1
      have ho : o < c.length := by simp at hl; omega
      rw [List.set_eq_take_append_cons_drop, if_pos ho]
      have e1 : (List.take o c ++ v :: List.drop (o + 1) c).take (o + 1) = List.take o c ++ [v] := by
        rw [List.take_append, List.length_take, Nat.min_eq_left (by omega), List.take_of_length_le (by simp; omega), show o + 1 - o = 1 from by omega]; rfl
      have e2 : (List.take o c ++ v :: List.drop (o + 1) c).drop (o + 1 + vs.length) = List.drop (o + (v :: vs).length) c := by
        rw [List.drop_append, List.length_take, Nat.min_eq_left (by omega), List.drop_of_length_le (by simp; omega), List.nil_append, show o + 1 + vs.length - o = vs.length + 1 from by omega, List.drop_succ_cons, List.drop_drop]
        congr 1; simp; omega
      rw [e1, e2]; simp

section
variable {P : Program} {ops : Array Oper} {rest : List Oper} {o : Oper} {a : Act} {w : World} {Q : Exit → Act → World → Prop}
/-- A struct is loaded. -/
theorem armLd (hgd : o.guard = none) (ty : TypeId) (x : Operand) (ho : o.op = .load ty x) (g : Nat) (hx : a.eval x = .pointer (some ⟨g, 0, none⟩)) {t : TypeId} {cs : List Value} (hb : Blk w g t cs)
    (d : TypeDesc) (hu : P.underlying ty = some d) (hd : (match d with | .struct _ | .array _ _ => true | _ => false) = true) (hi : (P.info? ty).map (·.size) = some cs.length)
    (h : wpList P ops Q rest (a.put o.dst (.agg cs.toArray)) w) : wpList P ops Q (o :: rest) a w :=
  wpList_load_row hgd ty x ho g hx t cs.toArray (0, 0) d hb hu hd (by simpa using hi) h
/-- A struct is loaded out of a row. -/
theorem armLm (hgd : o.guard = none) (ty : TypeId) (x : Operand) (ho : o.op = .load ty x) (b off : Nat) (hx : a.eval x = .pointer (some ⟨b, off, none⟩)) {cs : List Value} (hc : w.rangeAt b off cs)
    (d : TypeDesc) (hu : P.underlying ty = some d) (hd : d.isRow = true) (hi : (P.info? ty).map (·.size) = some cs.length)
    (h : wpList P ops Q rest (a.put o.dst (.agg cs.toArray)) w) : wpList P ops Q (o :: rest) a w :=
  wpList_load_mid hgd ty x ho b off hx cs d hc hu hd hi h
/-- A struct is stored. -/
theorem armSt (hgd : o.guard = none) (ty : TypeId) (x y : Operand) (ho : o.op = .store ty x y) (g : Nat) (cells : List Value) (hx : a.eval x = .pointer (some ⟨g, 0, none⟩)) (hy : a.eval y = .agg cells.toArray)
    {t : TypeId} {old : List Value} (hb : Blk w g t old) (hi : (P.info? ty).map (·.size) = some cells.length) (hold : old.length = cells.length) (h1 : ∀ u ∈ cells, u.oneCell' = true)
    (h : ∀ w', Og g w w' → w.heap.size = w'.heap.size → Blk w' g t cells → wpList P ops Q rest (a.put o.dst undef) w') : wpList P ops Q (o :: rest) a w := by
  refine wpList_store_row hgd ty x y ho g cells.toArray hx hy t old.toArray hb (by simpa using hi) (by simpa using hold) (all_oneCell_toArray h1) ?_
  refine h _ ⟨rfl, rfl, rfl, by rw [setRow_size]; exact Nat.le_refl _, fun k _ hk => setRow_other w g k _ (fun e => hk (by rw [e]))⟩ (by rw [setRow_size]) ?_
  exact setRow_heap w g old.toArray cells.toArray t (0, 0) hb
end

/-! ### regions that draw their order -/
section
variable {P : Program} {md : Region.Mode} {ops : Array Oper} {Q : Exit → Act → World → Prop} {S : World → Prop} {o : Oper} {a : Act} {w : World}
theorem genT {fuel : Nat} {listed : Array Bool} (h : ∀ a0, a0 = a → wpAnyH P md ops Q S fuel listed a0 w) : wpAnyH P md ops Q S fuel listed a w := h a rfl
theorem wantedT (hg : o.guard = none) : Region.wanted o (yielded ops a.tmps) = true := by simp [Region.wanted, hg]
theorem wantedG {j d : Nat} {want b : Bool} (hg : o.guard = some (j, want)) (hd : (ops[j]?).bind (·.dst) = some d) (hv : a.eval (.tmp d) = .bool b) (hz : d < a.tmps.size) : Region.wanted o (yielded ops a.tmps) = (b == want) := by
  have e1 : a.tmps[d]? = some (.bool b) := by
    have h1 : a.tmps.getD d undef = .bool b := hv
    rw [Array.getElem?_eq_getElem hz]
    simp [Array.getD, hz] at h1
    rw [h1]
  unfold Region.wanted yielded
  rw [hg]
  simp only [hd, Option.bind_some, e1]
  cases b <;> cases want <;> rfl
theorem tkT {i : Nat} {oi : Oper} {v : Value} {fuel : Nat} {listed : Array Bool} (hi : ops[i]? = some oi)
    (hs : Region.noSelect ops = true) (hf : Region.free md ops listed i = true) (hr : (Region.ready md ops listed).contains i = true)
    (hQ : ∀ c a w, Q (.panic c) (a.put oi.dst v) w → Q (.panic c) a w) (hS : S w) (hw : Region.wanted oi (yielded ops a.tmps) = true) (hrun : ∀ w, S w → (execOp a.eval oi).run P w = .ok (.value v) w)
    (h : ∀ a', a' = a.put oi.dst v → wpAnyH P md ops Q S fuel (listed.setIfInBounds i true) a' w) : wpAnyH P md ops Q S (fuel + 1) listed a w :=
  wpAnyH_take hi hs hf hr hQ (.inl ⟨hw, hrun⟩) hS (h _ rfl)
theorem skT {i : Nat} {oi : Oper} {fuel : Nat} {listed : Array Bool} (hi : ops[i]? = some oi)
    (hs : Region.noSelect ops = true) (hf : Region.free md ops listed i = true) (hr : (Region.ready md ops listed).contains i = true)
    (hQ : ∀ c a w, Q (.panic c) (a.put oi.dst undef) w → Q (.panic c) a w) (hS : S w) (hw : Region.wanted oi (yielded ops a.tmps) = false)
    (h : ∀ a', a' = a.put oi.dst undef → wpAnyH P md ops Q S fuel (listed.setIfInBounds i true) a' w) : wpAnyH P md ops Q S (fuel + 1) listed a w :=
  wpAnyH_take hi hs hf hr hQ (.inr ⟨hw, rfl⟩) hS (h _ rfl)
/-- One that comes up alone, whatever it does. -/
theorem aloneT {i : Nat} {oi : Oper} {fuel : Nat} {listed : Array Bool} (hi : ops[i]? = some oi) (hr : Region.ready md ops listed = [i]) (hw : Region.wanted oi (yielded ops a.tmps) = true)
    (h : oi.wp P a w (fun a' w' => S w' ∧ wpAnyH P md ops Q S fuel (listed.setIfInBounds i true) a' w') Q) : wpAnyH P md ops Q S (fuel + 1) listed a w := by
  refine wpAnyH_all hr (by simp) fun j hj => ?_
  obtain rfl := List.mem_singleton.1 hj
  refine wpOp_step hi fun K hK => ?_
  rw [if_pos hw]
  exact Oper.wp_mono (fun _ _ h => hK _ _ h) h
/-- One of several that come up. -/
theorem manyT {i : Nat} {oi : Oper} {K' : Act → World → Prop} (hi : ops[i]? = some oi) (hw : Region.wanted oi (yielded ops a.tmps) = true) (h : oi.wp P a w K' Q) : wpOp P ops Q i K' a w := by
  refine wpOp_step hi fun K hK => ?_
  rw [if_pos hw]
  exact Oper.wp_mono (fun _ _ h => hK _ _ h) h
theorem wpCall {f : FuncId} {args : Array Value} {K : Act → World → Prop} (hen : ∀ w, (execOp a.eval o).run P w = .ok (.enter f args) w) (R : Value → World → Prop)
    (hc : Calls P f args w fun e w' => ∃ v, e = .returned v ∧ R v w') (h : ∀ v w', R v w' → K (a.put o.dst v) w') : o.wp P a w K Q := by
  unfold Oper.wp
  rw [hen, Oper.upon_enter]
  exact hc.mono (by rintro e w' ⟨v, rfl, r⟩; exact h v w' r)
theorem wpRun {K : Act → World → Prop} {v : Value} {w' : World} (hr : (execOp a.eval o).run P w = .ok (.value v) w') (h : K (a.put o.dst v) w') : o.wp P a w K Q := by
  unfold Oper.wp
  rw [hr, Oper.upon_value]; exact h
theorem wpSkip {K : Act → World → Prop} {w' : World} (hr : (execOp a.eval o).run P w = .ok .skip w') (h : K (a.put o.dst undef) w') : o.wp P a w K Q := by
  unfold Oper.wp
  rw [hr]; exact h
theorem mvT {x : Operand} {v : Value} (ho : o.op = .move x) (hx : a.eval x = v) (w : World) : (execOp a.eval o).run P w = .ok (.value v) w := by
  unfold execOp; simp only [ho, hx, Sem.run_pure]
theorem asT {x : Operand} {v : Value} (ho : o.op = .assign x) (hx : a.eval x = v) (w : World) : (execOp a.eval o).run P w = .ok (.value v) w := by
  unfold execOp; simp only [ho, hx, Sem.run_pure]
theorem iaT {t : TypeId} {x y : Operand} {vx vy v : Value} (ho : o.op = .indexAddr t x y) (hx : a.eval x = vx) (hy : a.eval y = vy) (hr : (Instr.indexAt t vx vy).run P w = .ok v w) : (execOp a.eval o).run P w = .ok (.value v) w := by
  unfold execOp
  simp only [ho, hx, hy, Sem.run_bind, hr, Result.andThen_ok, Sem.run_pure]
theorem faT {ty : TypeId} {i : Nat} {x : Operand} {v v' : Value} (ho : o.op = .fieldAddr ty x i) (hx : a.eval x = v) (hr : (Instr.fieldAt ty v i).run P w = .ok v' w) : (execOp a.eval o).run P w = .ok (.value v') w := by
  unfold execOp
  simp only [ho, hx, Sem.run_bind, hr, Result.andThen_ok, Sem.run_pure]
theorem ldT {ty : TypeId} {x : Operand} {ad : Addr} {v : Value} (ho : o.op = .load ty x) (hx : a.eval x = .pointer (some ad)) (hr : (Instr.loadAt ty (.pointer (some ad))).run P w = .ok v w) : (execOp a.eval o).run P w = .ok (.value v) w := by
  unfold execOp
  simp only [ho, hx, Sem.run_bind, hr, Result.andThen_ok, Sem.run_pure]
theorem lrT {ty : TypeId} {x : Operand} {b off : Nat} {cs : List Value} {d : TypeDesc} (ho : o.op = .load ty x) (hx : a.eval x = .pointer (some ⟨b, off, none⟩)) (hc : w.rangeAt b off cs)
    (hu : P.underlying ty = some d) (hd : d.isRow = true) (hi : (P.info? ty).map (·.size) = some cs.length) : (execOp a.eval o).run P w = .ok (.value (.agg cs.toArray)) w := by
  unfold execOp
  simp only [ho, hx, Sem.run_bind, run_loadAt_mid w b off ty cs d hc hu hd hi, Result.andThen_ok, Sem.run_pure]
theorem smT {ty : TypeId} {x y : Operand} {g off : Nat} {cells : Array Value} (ho : o.op = .store ty x y) (hx : a.eval x = .pointer (some ⟨g, off, none⟩)) (hy : a.eval y = .agg cells)
    (ht : w.there g off cells.size) (hi : (P.info? ty).map (·.size) = some cells.size) (h1 : cells.all (·.oneCell') = true) : (execOp a.eval o).run P w = .ok .skip (w.setCells g off cells.toList) := by
  unfold execOp
  simp only [ho, hx, hy, Sem.run_bind, run_storeAt_mid w g off ty cells ht hi h1, Result.andThen_ok, Sem.run_pure]
theorem s1T {ty : TypeId} {x y : Operand} {v u : Value} {w' : World} (ho : o.op = .store ty x y) (hx : a.eval x = v) (hy : a.eval y = u) (hr : (Instr.storeAt ty v u).run P w = .ok () w') : (execOp a.eval o).run P w = .ok .skip w' := by
  unfold execOp
  simp only [ho, hx, hy, Sem.run_bind, hr, Result.andThen_ok, Sem.run_pure]
theorem clT {f : FuncId} {xs : Array Operand} {ts : Array TypeId} {args : Array Value} (ho : o.op = .call { callee := .value (.func f), args := xs, argTypes := ts }) (hargs : xs.map a.eval = args)
    (hcf : ∀ args w, (callFunc f args).run P w = .ok (.enter f args) w) (w : World) : (execOp a.eval o).run P w = .ok (.enter f args) w := by
  have e1 : a.eval (.func f) = .func (.func f) #[] #[] := rfl
  unfold execOp
  simp [ho, resolve, invoke, hargs, hcf, e1, Deferred.ofValue]
theorem pkT {c x y : Operand} {b : Bool} {vx vy : Value} (ho : o.op = .pick c x y) (hc : a.eval c = .bool b) (hx : a.eval x = vx) (hy : a.eval y = vy) (w : World) : (execOp a.eval o).run P w = .ok (.value (bif b then vx else vy)) w := by
  unfold execOp
  cases b <;> simp [ho, hc, hx, hy, asBool] <;> rfl
theorem bdT {t : TypeId} {parts : Array (Nat × Operand)} {vals : Array (Nat × Value)} {cells : Array Value} (ho : o.op = .build t parts) (hv : (parts.map fun (i, x) => (i, a.eval x)) = vals) (hb : P.built t vals.toList = some cells) (w : World) : (execOp a.eval o).run P w = .ok (.value (.agg cells)) w := by
  unfold execOp
  simp only [ho, hv, Sem.run_bind, run_build w t _ _ hb, Result.andThen_ok, Sem.run_pure]
theorem lsT {x : Operand} {t : TypeId} {s : ByteArray} (ho : o.op = .call { callee := .builtin .len, args := #[x], argTypes := #[t] }) (hx : a.eval x = .string s) (ht : P.underlying t = some .string) (w : World) :
    (execOp a.eval o).run P w = .ok (.value (.int .i64 (s.size : Int))) w := by
  unfold execOp
  simp [ho, resolve, invoke, builtin, hx]
  go_simp
theorem boT {bo : BinOp} {t u : TypeId} {x y : Operand} {vx vy v : Value} (ho : o.op = .binOp bo t x y u) (hx : a.eval x = vx) (hy : a.eval y = vy) (hg : (eqGuard bo t x y vx vy).run P w = .ok () w) (hr : (binOp bo t vx vy).run P w = .ok v w) : (execOp a.eval o).run P w = .ok (.value v) w := by
  unfold execOp
  simp only [ho, hx, hy, Sem.run_bind, hg, hr, Result.andThen_ok, Sem.run_pure]
theorem bsT {t : TypeId} {n : Nat} {parts : Array (Nat × Operand)} {vals : Array (Nat × Value)} {v : Value} {w' : World} (ho : o.op = .buildSlice t n parts) (hv : (parts.map fun (i, x) => (i, a.eval x)) = vals)
    (hr : (Instr.buildSlice t n vals).run P w = .ok v w') : (execOp a.eval o).run P w = .ok (.value v) w' := by
  unfold execOp
  simp only [ho, hv, Sem.run_bind, hr, Result.andThen_ok, Sem.run_pure]
theorem wpAl {K : Act → World → Prop} {t : TypeId} (ho : o.op = .alloc t) (zs : List Value) (hal : ∀ w, (Instr.alloc t true (.tuple #[])).run P w = .ok (.pointer (some ⟨w.heap.size, 0, none⟩)) (w.alloc (.cells zs.toArray t (0, 0))))
    (h : ∀ g w', Qt w w' → w.heap.size ≤ g → Blk w' g t zs → K (a.put o.dst (.pointer (some ⟨g, 0, none⟩))) w') : o.wp P a w K Q := by
  refine wpRun (v := .pointer (some ⟨w.heap.size, 0, none⟩)) (w' := w.alloc (.cells zs.toArray t (0, 0))) ?_ (h _ _ ((Qt.refl w).alloc _) (Nat.le_refl _) (heap_alloc_new w _))
  unfold execOp
  simp only [ho, Sem.run_bind, hal, Result.andThen_ok, Sem.run_pure]
theorem lnT {x : Operand} {t e : TypeId} {b : Option Addr} {n c : Nat} (ho : o.op = .call { callee := .builtin .len, args := #[x], argTypes := #[t] }) (hx : a.eval x = .slice b n c) (ht : P.underlying t = some (.slice e)) (w : World) :
    (execOp a.eval o).run P w = .ok (.value (.int .i64 (n : Int))) w := by
  unfold execOp
  simp [ho, resolve, invoke, builtin, hx]
  go_simp
end
theorem Blk.there {w : World} {a : Nat} {t : TypeId} {c : List Value} (h : Blk w a t c) (o n : Nat) (hn : o + n ≤ c.length) : w.there a o n := by
  intro i hi
  refine ⟨?_, h.frozen _⟩
  rw [h.cell, List.getElem?_eq_getElem (by omega)]; rfl
section
variable {P : Program} {ops : Array Oper} {rest : List Oper} {o : Oper} {a : Act} {w : World} {Q : Exit → Act → World → Prop} {K : Act → World → Prop}
theorem slT {t : TypeId} {x y : Operand} {A : Option Addr} {n c s : Nat} {k : IntKind} {i : Int} (ho : o.op = .slice t x (some y) none none) (hx : a.eval x = .slice A n c) (hy : a.eval y = .int k i)
    (ht : P.underlying t = some (.slice (P.elem t))) (hs : ∀ w, (sizeOf (P.elem t)).run P w = .ok s w) (h0 : 0 ≤ i) (h1 : i ≤ n) (w : World) : (execOp a.eval o).run P w = .ok (.value (sliced A i.toNat n c s)) w := by
  unfold execOp
  simp only [ho, hx, hy, Option.map_some, Option.map_none, Sem.run_bind, run_sliceAt_slice w t _ _ _ _ ht, run_slice_l w t A n c ht k i h0 h1, hs, Result.andThen_ok, Sem.run_pure]
theorem armSl (hgd : o.guard = none) (t : TypeId) (x y : Operand) (ho : o.op = .slice t x none (some y) none) (A : Option Addr) (n c s : Nat) (hx : a.eval x = .slice A n c) (k : IntKind) (i : Int) (hy : a.eval y = .int k i)
    (ht : P.underlying t = some (.slice (P.elem t))) (hs : ∀ w, (sizeOf (P.elem t)).run P w = .ok s w) (h0 : 0 ≤ i) (h1 : i ≤ c) (av : Value) (hav : sliced A 0 i.toNat c s = av)
    (h : wpList P ops Q rest (a.put o.dst av) w) : wpList P ops Q (o :: rest) a w := by
  subst hav
  refine wpList_plain hgd fun K hK => wpRun ?_ (hK _ _ h)
  unfold execOp
  simp only [ho, hx, hy, Option.map_some, Option.map_none, Sem.run_bind, run_sliceAt_slice w t _ _ _ _ ht, run_slice_h w t A n c ht k i h0 h1, hs, Result.andThen_ok, Sem.run_pure]
/-- A struct is stored into a block. -/
theorem wpStM {ty : TypeId} {x y : Operand} {g off : Nat} {cells : List Value} (ho : o.op = .store ty x y) (hx : a.eval x = .pointer (some ⟨g, off, none⟩)) (hy : a.eval y = .agg cells.toArray)
    {t : TypeId} {c : List Value} (hb : Blk w g t c) (hl : off + cells.length ≤ c.length) (hi : (P.info? ty).map (·.size) = some cells.length) (h1 : ∀ u ∈ cells, u.oneCell' = true)
    (h : ∀ w', Og g w w' → w.heap.size = w'.heap.size → Blk w' g t (c.take off ++ cells ++ c.drop (off + cells.length)) → K (a.put o.dst undef) w') : o.wp P a w K Q := by
  refine wpSkip (smT ho hx hy (hb.there off _ (by simpa using hl)) (by simpa using hi) (all_oneCell_toArray h1)) ?_
  refine h _ (grown_setCells w g off cells) (by rw [size_setCells]) ?_
  exact (set_many g cells off w t c hb).resolve_right (by omega)
theorem rangeOg {w w' : World} {b off g : Nat} {cs : List Value} (h : w.rangeAt b off cs) (q : Og g w w') (hb : b ≠ g) : w'.rangeAt b off cs := fun i u hu => q.cell (h i u hu) hb
theorem rangeQt {w w' : World} {b off : Nat} {cs : List Value} (h : w.rangeAt b off cs) (q : Qt w w') : w'.rangeAt b off cs := fun i u hu => (q.cell (p := ⟨b, off + i, none⟩) (blk_of_cell (h i u hu))).trans (h i u hu)
end
section
variable {P : Program} {ops : Array Oper} {rest : List Oper} {o : Oper} {a : Act} {w : World} {Q : Exit → Act → World → Prop}
theorem armLdG (ty : TypeId) (x : Operand) (ho : o.op = .load ty x) (g : Nat) (hx : a.eval x = .pointer (some ⟨g, 0, none⟩)) {t : TypeId} {cs : List Value} (hb : Blk w g t cs) (d : TypeDesc)
    (hu : P.underlying ty = some d) (hd : (match d with | .struct _ | .array _ _ => true | _ => false) = true) (hi : (P.info? ty).map (·.size) = some cs.length) (hw : Region.wanted o (yielded ops a.tmps) = true)
    (h : wpList P ops Q rest (a.put o.dst (.agg cs.toArray)) w) : wpList P ops Q (o :: rest) a w :=
  BigFrame.wpList_want hw fun _ hK => wp_load_row ty x ho g hx t cs.toArray (0, 0) d hb hu hd (by simpa using hi) (hK _ _ h)
theorem armVal (v : Value) (hrun : (execOp a.eval o).run P w = .ok (.value v) w) (hw : Region.wanted o (yielded ops a.tmps) = true) (h : wpList P ops Q rest (a.put o.dst v) w) : wpList P ops Q (o :: rest) a w :=
  BigFrame.wpList_want hw fun _ hK => wpRun hrun (hK _ _ h)
end
section
variable {P : Program} {md : Region.Mode} {ops : Array Oper} {Q : Exit → Act → World → Prop} {S : World → Prop}
theorem wpAnyH_inv (Inv : Array Bool → Act → World → Prop) (left : Array Bool → Nat) (kf : Nat)
    (hz : ∀ listed a w, Inv listed a w → left listed = 0 → wpAnyH P md ops Q S kf listed a w)
    (hs : ∀ listed a w n, Inv listed a w → left listed = n + 1 → Region.ready md ops listed ≠ [] ∧ ∀ i ∈ Region.ready md ops listed, wpOp P ops Q i (fun a' w' => S w' ∧ Inv (listed.setIfInBounds i true) a' w' ∧ left (listed.setIfInBounds i true) = n) a w) :
    ∀ (n : Nat) (listed : Array Bool) (a : Act) (w : World), Inv listed a w → left listed = n → wpAnyH P md ops Q S (n + kf) listed a w
  | 0, listed, a, w, h, hl => by rw [Nat.zero_add]; exact hz listed a w h hl
  | n + 1, listed, a, w, h, hl => by
    obtain ⟨hne, hall⟩ := hs listed a w n h hl
    rw [show n + 1 + kf = (n + kf) + 1 from by omega]
    refine ⟨fun h0 => absurd h0 hne, fun i hi => wpOp_mono (fun a' w' h' => ⟨h'.1, ?_⟩) (hall i hi)⟩
    exact wpAnyH_inv Inv left kf hz hs n _ a' w' h'.2.1 h'.2.2
end
/-- Two states of a call that hold the same in each slot. -/
theorem act_ext {a b : Act} (hs : a.tmps.size = b.tmps.size) (hd : a.defers = b.defers) (h : ∀ s, a.eval (.tmp s) = b.eval (.tmp s)) : a = b := by
  obtain ⟨ta, da⟩ := a
  obtain ⟨tb, db⟩ := b
  simp only at hs hd
  subst hd
  congr 1
  apply Array.ext hs
  intro i h1 h2
  have := h i
  simp only [Act.eval, Array.getD, h1, h2, dif_pos] at this
  exact this
section
variable {P : Program} {md : Region.Mode} {ops : Array Oper} {Q : Exit → Act → World → Prop} {S : World → Prop}
theorem wpAnyH_free (K KA : List Nat) (pre : Nat → List Nat) (slot : Nat → Nat) (R : Nat → Value → World → Prop) (Ls : List (Array Bool)) (left : Array Bool → Nat) (F : Act) (w0 : World) (kf : Nat)
    (hR : ∀ i v w w', R i v w → Qt w w' → R i v w') (hS : ∀ w, Qt w0 w → S w)
    (hsl : ∀ i ∈ K, slot i < F.tmps.size) (hsd : ∀ i ∈ K, ∀ j ∈ K, i ≠ j → slot i ≠ slot j) (hKA : ∀ i ∈ KA, i ∈ K)
    (hne : ∀ listed ∈ Ls, left listed ≠ 0 → Region.ready md ops listed ≠ [])
    (hrdy : ∀ listed ∈ Ls, left listed ≠ 0 → ∀ i ∈ Region.ready md ops listed, i ∈ K ∧ listed.setIfInBounds i true ∈ Ls ∧ left (listed.setIfInBounds i true) + 1 = left listed ∧ ∀ j ∈ pre i, j ∈ K ∧ listed[j]? = some true)
    (hop : ∀ i ∈ K, ∀ (a : Act) (w : World) (K' : Act → World → Prop), Qt w0 w → a.tmps.size = F.tmps.size → (∀ s, (∀ i ∈ K, slot i ≠ s) → a.eval (.tmp s) = F.eval (.tmp s)) → (∀ j ∈ pre i, R j (a.eval (.tmp (slot j))) w) →
      (∀ v w', Qt w w' → R i v w' → (i ∈ KA → ∀ j ∈ KA, ∀ u, R j u w → v ≠ u) → K' (a.put (some (slot i)) v) w') → wpOp P ops Q i K' a w)
    (hend : ∀ listed ∈ Ls, left listed = 0 → ∀ i ∈ K, listed[i]? = some true)
    (hz : ∀ listed ∈ Ls, left listed = 0 → ∀ (a : Act) (w : World), a.tmps.size = F.tmps.size → a.defers = F.defers → (∀ s, (∀ i ∈ K, slot i ≠ s) → a.eval (.tmp s) = F.eval (.tmp s)) → Qt w0 w → (∀ i ∈ K, R i (a.eval (.tmp (slot i))) w) →
      (∀ i ∈ KA, ∀ j ∈ KA, i ≠ j → a.eval (.tmp (slot i)) ≠ a.eval (.tmp (slot j))) → wpAnyH P md ops Q S kf listed a w)
    (n : Nat) (listed : Array Bool) (hl : listed ∈ Ls) (hn : left listed = n) (h0 : ∀ i ∈ K, listed[i]? ≠ some true) : wpAnyH P md ops Q S (n + kf) listed F w0 := by
  refine wpAnyH_inv (fun listed a w => listed ∈ Ls ∧ a.tmps.size = F.tmps.size ∧ a.defers = F.defers ∧ (∀ s, (∀ i ∈ K, slot i ≠ s) → a.eval (.tmp s) = F.eval (.tmp s)) ∧ Qt w0 w ∧ (∀ i ∈ K, listed[i]? = some true → R i (a.eval (.tmp (slot i))) w) ∧
    (∀ i ∈ KA, ∀ j ∈ KA, i ≠ j → listed[i]? = some true → listed[j]? = some true → a.eval (.tmp (slot i)) ≠ a.eval (.tmp (slot j)))) left kf ?_ ?_ n listed F w0
    ⟨hl, rfl, rfl, fun _ _ => rfl, Qt.refl w0, fun i hi h => absurd h (h0 i hi), fun i hi j hj _ h => absurd h (h0 i (hKA i hi))⟩ hn
  · rintro listed a w ⟨h1, h2, h3, h4, h5, h6, h7⟩ hl0
    have he := hend listed h1 hl0
    exact hz listed h1 hl0 a w h2 h3 h4 h5 (fun i hi => h6 i hi (he i hi)) fun i hi j hj hij => h7 i hi j hj hij (he i (hKA i hi)) (he j (hKA j hj))
  · rintro listed a w m ⟨h1, h2, h3, h4, h5, h6, h7⟩ hl0
    refine ⟨hne listed h1 (by omega), fun i hi => ?_⟩
    obtain ⟨g1, g2, g3, g4⟩ := hrdy listed h1 (by omega) i hi
    refine hop i g1 a w _ h5 h2 h4 (fun j hj => h6 j (g4 j hj).1 (g4 j hj).2) fun v w' q hr hfr => ?_
    have hsz : slot i < a.tmps.size := by rw [h2]; exact hsl i g1
    have hget : ∀ j, j ≠ i → (listed.setIfInBounds i true)[j]? = listed[j]? := fun j hj => by rw [Array.getElem?_setIfInBounds, if_neg (fun e => hj e.symm)]
    refine ⟨hS _ (h5.trans q), ⟨g2, by simpa [Act.put] using h2, by simpa [Act.put] using h3, fun s hs => (evO (fun e => hs i g1 e)).trans (h4 s hs), h5.trans q, fun j hj hjl => ?_, fun j hj k hk hjk hjl hkl => ?_⟩, by omega⟩
    · by_cases hji : j = i
      · subst hji; rw [evS hsz]; exact hr
      · rw [evO (hsd i g1 j hj (fun e => hji e.symm))]
        rw [hget j hji] at hjl
        exact hR _ _ _ _ (h6 j hj hjl) q
    · by_cases hji : j = i
      · subst hji
        have hki : k ≠ j := fun e => hjk e.symm
        rw [hget k hki] at hkl
        rw [evS hsz, evO (hsd j g1 k (hKA k hk) hjk)]
        exact hfr hj k hk _ (h6 k (hKA k hk) hkl)
      · rw [hget j hji] at hjl
        by_cases hki : k = i
        · subst hki
          rw [evS hsz, evO (hsd k g1 j (hKA j hj) (fun e => hjk e.symm))]
          exact fun e => hfr hk j hj _ (h6 j (hKA j hj) hjl) e.symm
        · rw [hget k hki] at hkl
          rw [evO (hsd i g1 j (hKA j hj) (fun e => hji e.symm)), evO (hsd i g1 k (hKA k hk) (fun e => hki e.symm))]
          exact h7 j hj k hk hjk hjl hkl
end
theorem wantedB {ops : Array Oper} {o : Oper} {a : Act} {j d : Nat} {want b : Bool} (hg : o.guard = some (j, want)) (hd : (ops[j]?).bind (·.dst) = some d) (hv : a.tmps[d]? = some (.bool b)) : Region.wanted o (yielded ops a.tmps) = (b == want) := by
  unfold Region.wanted yielded
  rw [hg]
  simp only [hd, Option.bind_some, hv]
  cases b <;> cases want <;> rfl
theorem armSkip {P : Program} {ops : Array Oper} {rest : List Oper} {o : Oper} {a : Act} {w : World} {Q : Exit → Act → World → Prop} {j d : Nat} {want b : Bool} (hg : o.guard = some (j, want)) (hd : (ops[j]?).bind (·.dst) = some d) (hv : a.tmps[d]? = some (.bool b))
    (hb : (b == want) = false) (h : wpList P ops Q rest (a.put o.dst undef) w) : wpList P ops Q (o :: rest) a w :=
  wpList_step fun K hK => by rw [if_neg (by rw [wantedB hg hd hv, hb]; decide)]; exact hK _ _ h
theorem cutK {P : Program} {x : Code} {Q : Exit → Act → World → Prop} {a : Act} {w : World} (Rel : Exit → Act → World → Prop) (hk : ∀ e a w, Rel e a w → Q e a w)
    (h : ∀ R : Exit → Act → World → Prop, (∀ e a w, Rel e a w → R e a w) → x.wp P R a w) : x.wp P Q a w := Code.wp_mono hk (h Rel (fun _ _ _ h => h))
theorem noT {P : Program} {o : Oper} {a : Act} {t : TypeId} {x : Operand} {b : Bool} {w : World} (ho : o.op = .unOp .not t x) (hx : a.eval x = .bool b) : (execOp a.eval o).run P w = .ok (.value (.bool (!b))) w := by
  unfold execOp
  simp only [ho, hx]
  cases b <;> rfl
end Go.Proofs.YtajkmblcphdnbaaGreat
namespace Go.Proofs.YtajkmblcphdnbaaGreat
open Go.RowKit
set_option linter.unusedVariables false
set_option linter.unusedSimpArgs false

/-- append to a row that is full. -/
theorem run_appG {w : World} {P : Program} (base : Nat) (t tx ty e : TypeId) (i : TypeInfo) (z : Value) (size bytes : Nat) (ht : P.underlying t = some (.slice e)) (hi : P.info? e = some i) (hz : i.zero = some z)
    (hsize : i.size = size) (hby : i.bytes = bytes) (hzs : z.cells.size = size) (b : Addr) (n : Nat) (xs : List Value) (hxl : xs.length = n * size) (hx : ∀ j u, xs[j]? = some u → w.cell? (b.add j) = some u) (x : Value) (m : Nat) (news : List Value) (hs : Src P size tx x m news w)
    (hm : 0 < m) (h63 : n + m ≤ maxLen) (hb : (n + m) * bytes ≤ 140737488355328) (hbase : base ≤ w.heap.size) :
    ∃ v' w', (Builtin.append_ #[t, tx] ty #[.slice (some b) n n, x]).run P w = .ok v' w' ∧ OQ w' base size v' (n + m) (xs ++ news) ∧ Qt w w' := by
  subst hsize
  subst hby
  have hnl := hs.newsLen
  have hold : (Builtin.firstCells i.size n (.slice (some b) n n)).run P w.drew = .ok xs.toArray w.drew := run_firstCells_some w.drew i.size n b n n xs hxl (fun j u hu => hx j u hu)
  have hr := run_append_grow_src (P := P) w t tx ty e i z ht hi hz (some b) n n xs hold x m news hs (by omega) (by unfold maxLen at h63; omega) (growslice_fits (by omega) hb)
  have hge := grownCap_ge w (n + m) n e
  have hcm := grownCap_le_maxLen w (n + m) n e h63
  refine ⟨_, _, hr, ⟨by rw [List.length_append, hxl, hnl, Nat.add_mul], .inr ⟨w.heap.size, 0, _, rfl, hbase, by simp, hge, hcm, ?_, ?_⟩⟩, ((Qt.refl w).drew.alloc _)⟩
  · intro j hj
    have hsz : ((xs ++ news).toArray ++ Builtin.zeroCells z.cells (grownCap w (n + m) n e - (n + m))).size = grownCap w (n + m) n e * i.size := by
      simp only [Array.size_append, List.size_toArray, size_zeroCells, hzs, List.length_append, hxl, hnl]
      rw [← Nat.add_mul, ← Nat.add_mul]; congr 1; omega
    constructor
    · rw [show w.heap.size = w.drew.heap.size from rfl, World.cell?_alloc_new, Array.getElem?_eq_getElem (by rw [hsz]; omega)]; rfl
    · exact World.frozen?_alloc_new (w := w.drew) _ _ _
  · intro j u hu
    have hj : j < (xs ++ news).length := by
      rcases Nat.lt_or_ge j (xs ++ news).length with h | h
      · exact h
      · rw [List.getElem?_eq_none h] at hu; cases hu
    rw [show w.heap.size = w.drew.heap.size from rfl, World.cell?_alloc_new, Nat.zero_add, Array.getElem?_append_left (by simpa using hj)]
    simpa using hu
/-- Bytes behind two bytes that were just made. -/
theorem app_two (w : World) (g : Nat) (a b : Nat) (bl : List Nat) (y : Value) (ty : TypeId) (hb : Blk w g 5 (u8s [a, b])) (hy : Sl w y bl) (hl : bl.length ≤ 1000) :
    ∃ v' w', (Builtin.append_ #[26, 26] ty #[.slice (some ⟨g, 0, none⟩) 2 2, y]).run Tryz.prog w = .ok v' w' ∧ Sl w' v' (a :: b :: bl) ∧ Qt w w' := by
  obtain ⟨i0, hi0, hz0, hz1, hz2⟩ := info_parts (P := Tryz.prog) (e := 5) (z := .int .u8 0) (size := 1) (bytes := 1) (by kernel_rfl)
  have hs : Src Tryz.prog 1 26 y bl.length (u8s bl) w := Src.ofRd (e' := 5) (by kernel_rfl) hy.rd (by rw [u8s_len, Nat.mul_one]) (by decide) (u8s_one1 bl)
  by_cases h0 : bl = []
  · subst h0
    refine ⟨_, w, run_append_nothing (P := Tryz.prog) w _ _ ty 5 i0 (by kernel_rfl) hi0 _ 2 2 (Nat.le_refl _) y (by rw [hz1]; exact hs), ?_, Qt.refl w⟩
    exact sl_blk [a, b] 2 [] (by rw [List.append_nil]; exact hb) (by simp) (by decide)
  · have hp : 0 < bl.length := List.length_pos_iff.2 h0
    obtain ⟨v', w', hr, ho, hq⟩ := run_appG (w := w) (P := Tryz.prog) w.heap.size 26 26 ty 5 i0 (.int .u8 0) 1 1 (by kernel_rfl) hi0 hz0 hz1 hz2 rfl ⟨g, 0, none⟩ 2 (u8s [a, b]) (by rw [u8s_len]; rfl) (fun j u hu => by rw [Addr.add_lit, Nat.zero_add, hb.cell]; exact hu) y bl.length (u8s bl) hs hp (by unfold maxLen; omega) (by omega) (Nat.le_refl _)
    refine ⟨v', w', hr, ?_, hq⟩
    have e : (a :: b :: bl).length = 2 + bl.length := by simp; omega
    refine OQ.sl (base := w.heap.size) ?_ (by rw [e]; omega)
    rw [e]
    have e2 : u8s [a, b] ++ u8s bl = u8s (a :: b :: bl) := rfl
    rw [← e2]; exact ho
def zput : List Value := putC (pd 0 0 []) (.slice none 0 0)
/-- A row of calls is made. -/
theorem bsPuts (w : World) (l : List (PutD × Value)) (hl : ∀ x ∈ l, x.1.h.length = 32) (h0 : 0 < l.length) (hn : l.length ≤ 100) (vals : Array (Nat × Value)) (hv : vals.toList = ((l.map fun x => Value.agg (putC x.1 x.2).toArray).zipIdx 0).map fun x => (x.2, x.1)) :
    (Instr.buildSlice 30 l.length vals).run Tryz.prog w = .ok (.slice (some ⟨w.heap.size, 0, none⟩) l.length l.length) (w.alloc (.cells ((l.map fun x => putC x.1 x.2).flatten).toArray 28)) := by
  obtain ⟨i, hi, hz, hs, hb⟩ := info_parts (P := Tryz.prog) (e := 28) (z := .agg zput.toArray) (size := 37) (bytes := 96) (by kernel_rfl)
  refine run_buildSlice w _ 28 l.length vals _ i _ (by kernel_rfl) hi hz (by rw [hs]; omega) (by rw [hs]; omega) ?_
  have hc : ∀ v ∈ (l.map fun x => Value.agg (putC x.1 x.2).toArray), v.cells.size = 37 := by
    intro v hv
    obtain ⟨x, hx, rfl⟩ := List.mem_map.1 hv
    show (putC x.1 x.2).toArray.size = 37
    rw [List.size_toArray]
    exact putC_lenU x.1 x.2 (hl x hx)
  rw [hs, hv, Great.fill_whole (s := 37) (by omega) _ _ hc (by simp)]
  congr 2
  rw [List.flatMap_map, ← List.flatMap_def]
  rfl
section
variable {ops : Array Oper} {rest : List Oper} {o : Oper} {a : Act} {w : World} {Q : Exit → Act → World → Prop}
/-- The same as an arm of the walk. -/
theorem armPuts (l : List (PutD × Value)) (hw : Region.wanted o (yielded ops a.tmps) = true) (parts : Array (Nat × Operand)) (ho : o.op = .buildSlice 30 l.length parts)
    (hv : (parts.map fun (i, x) => (i, a.eval x)).toList = ((l.map fun x => Value.agg (putC x.1 x.2).toArray).zipIdx 0).map fun x => (x.2, x.1))
    (hok : ∀ x ∈ l, x.1.Ok ∧ Rd w x.2 x.1.b.length (u8s x.1.b)) (h0 : 0 < l.length) (hn : l.length ≤ 100)
    (h : ∀ w' g, Qt w w' → Puts w' (.slice (some ⟨g, 0, none⟩) l.length l.length) l → wpList Tryz.prog ops Q rest (a.put o.dst (.slice (some ⟨g, 0, none⟩) l.length l.length)) w') : wpList Tryz.prog ops Q (o :: rest) a w := by
  refine BigFrame.wpList_want hw fun _ hK => wpRun (bsT ho rfl (bsPuts w l (fun x hx => (hok x hx).1.h32) h0 hn _ hv)) (hK _ _ (h _ _ ((Qt.refl w).alloc _) ?_))
  exact puts_blk (t := 28) l (heap_alloc_new w _) (fun x hx => ⟨(hok x hx).1, (hok x hx).2.below ((Qt.refl w).alloc _)⟩) hn
end
theorem putC_oneU (x : PutD) (a : Option Addr) (n c : Nat) : ∀ u ∈ putC x (.slice a n c), u.oneCell' = true := by
  have h := putC_one x a n c
  rw [List.all_toArray] at h
  exact List.all_eq_true.1 h
/-! ### the call of the first loops -/
def Hx : List Nat := [1, 2, 255, 0, 0, 0, 0, 0, 0, 0, 0, 0, 0, 0, 0, 0, 0, 0, 0, 0, 0, 0, 0, 0, 0, 0, 0, 0, 0, 0, 0, 0]
def xd (k z : Int) (u : Nat) : PutD := ⟨k, z, u, Hx, [5, 6], [116, 101, 120, 116]⟩
theorem xd_ok (k z : Int) (u : Nat) (h0 : -9223372036854775808 ≤ k) (h1 : k < 9223372036854775808) (h2 : -9223372036854775808 ≤ z) (h3 : z < 9223372036854775808) (h4 : u < 18446744073709551616) : (xd k z u).Ok :=
  ⟨h0, h1, h2, h3, h4, rfl, by intro x hx; unfold xd Hx at hx; simp at hx; omega, by intro x hx; unfold xd at hx; simp at hx; omega, by intro x hx; unfold xd at hx; simp at hx; omega, by show (4 : Nat) ≤ 140737488351232; decide, by show (2 : Nat) ≤ 140737488351232; decide⟩
theorem xd_rd {w : World} {g : Nat} {k z : Int} {u : Nat} (hb : Blk w g 5 (u8s [5, 6])) : Rd w (.slice (some ⟨g, 0, none⟩) 2 2) (xd k z u).b.length (u8s (xd k z u).b) :=
  ⟨_, _, rfl, Nat.le_refl _, .inr ⟨_, _, rfl, fun j v hv => by rw [Nat.zero_add, hb.cell]; exact hv⟩⟩
def numsI : List Int := [-9223372036854775808, -1, 0, 1, 2, 7, 255, 256, 65535, 65536, 4294967295, 4294967296, 9223372036854775807]
def numsV : List Value := numsI.map fun z => .int .i64 z
theorem nums_at {i : Nat} (h : i < 13) : ∃ z : Int, numsV[i]? = some (.int .i64 z) ∧ -9223372036854775808 ≤ z ∧ z < 9223372036854775808 := by
  have hz : ∀ z ∈ numsI, -9223372036854775808 ≤ z ∧ z < 9223372036854775808 := by decide
  have hl : i < numsI.length := h
  refine ⟨numsI[i], ?_, hz _ (List.getElem_mem hl)⟩
  unfold numsV
  rw [List.getElem?_map, List.getElem?_eq_getElem hl]; rfl
end Go.Proofs.YtajkmblcphdnbaaGreat
namespace Go.Proofs.YtajkmblcphdnbaaGreat
open Go.RowKit
set_option linter.unusedVariables false
set_option linter.unusedSimpArgs false

theorem cvT {P : Program} {o : Oper} {a : Act} {w : World} {s d : TypeId} {x : Operand} {v v' : Value} (ho : o.op = .convert s d x) (hx : a.eval x = v) (hr : (convert s d v).run P w = .ok v' w) : (execOp a.eval o).run P w = .ok (.value v') w := by
  unfold execOp
  simp only [ho, hx, Sem.run_bind, hr, Result.andThen_ok, Sem.run_pure]
theorem blk_newE (w : World) (g : Nat) (t : TypeId) (c : List Value) (hg : g = w.heap.size) : Blk (w.alloc (.cells c.toArray t)) g t c := by
  subst hg
  exact heap_alloc_new w _
/-- What comes up of the first drawn region: bytes, the call, its place. -/
def RA (base : Nat) (k z : Int) (U : Nat) (i : Nat) (v : Value) (w : World) : Prop :=
  match i with
  | 11 => ∃ g, v = .slice (some ⟨g, 0, none⟩) 2 2 ∧ Blk w g 5 (u8s [5, 6])
  | 12 => ∃ g, v = .agg (putC (xd k z U) (.slice (some ⟨g, 0, none⟩) 2 2)).toArray ∧ Blk w g 5 (u8s [5, 6])
  | _ => ∃ g, base ≤ g ∧ v = .pointer (some ⟨g, 0, none⟩) ∧ Blk w g 28 zput
theorem RA.qt {base : Nat} {k z : Int} {U : Nat} (i : Nat) (v : Value) (w w' : World) (h : RA base k z U i v w) (q : Qt w w') : RA base k z U i v w' := by
  unfold RA at *
  split at h
  · obtain ⟨g, e, h⟩ := h; exact ⟨g, e, h.qt q⟩
  · obtain ⟨g, e, h⟩ := h; exact ⟨g, e, h.qt q⟩
  · obtain ⟨g, hb, e, h⟩ := h; exact ⟨g, hb, e, h.qt q⟩
/-- Of the second: two bytes, bytes behind them, two calls. -/
def RB (bl : List Nat) (l : List (PutD × Value)) (i : Nat) (v : Value) (w : World) : Prop :=
  match i with
  | 10 => ∃ g, v = .slice (some ⟨g, 0, none⟩) 2 2 ∧ Blk w g 5 (u8s [0, 2])
  | 12 => Sl w v (0 :: 2 :: bl)
  | _ => Puts w v l
theorem RB.qt {bl : List Nat} {l : List (PutD × Value)} (i : Nat) (v : Value) (w w' : World) (h : RB bl l i v w) (q : Qt w w') : RB bl l i v w' := by
  unfold RB at *
  split at h
  · obtain ⟨g, e, h⟩ := h; exact ⟨g, e, h.qt q⟩
  · exact h.qt q
  · exact h.qt q
theorem wpPuts {o : Oper} {a : Act} {w : World} {K : Act → World → Prop} {Q : Exit → Act → World → Prop} (l : List (PutD × Value)) {parts : Array (Nat × Operand)} (ho : o.op = .buildSlice 30 l.length parts)
    (hv : (parts.map fun (i, x) => (i, a.eval x)).toList = ((l.map fun x => Value.agg (putC x.1 x.2).toArray).zipIdx 0).map fun x => (x.2, x.1))
    (hok : ∀ x ∈ l, x.1.Ok ∧ Rd w x.2 x.1.b.length (u8s x.1.b)) (h0 : 0 < l.length) (hn : l.length ≤ 100)
    (h : ∀ w' g, Qt w w' → Puts w' (.slice (some ⟨g, 0, none⟩) l.length l.length) l → K (a.put o.dst (.slice (some ⟨g, 0, none⟩) l.length l.length)) w') : o.wp Tryz.prog a w K Q :=
  wpRun (bsT ho rfl (bsPuts w l (fun x hx => (hok x hx).1.h32) h0 hn _ hv)) (h _ _ ((Qt.refl w).alloc _) (puts_blk (t := 28) l (heap_alloc_new w _) (fun x hx => ⟨(hok x hx).1, (hok x hx).2.below ((Qt.refl w).alloc _)⟩) hn))
theorem nine (w : World) (n : Nat) (hn : n < 10) : ∃ bl : List Nat, bl.length = n ∧ (∀ x ∈ bl, x < 256) ∧ Sl (w.alloc (.cells #[.int .u8 0, .int .u8 (n : Int), .int .u8 1, .int .u8 0, .int .u8 2, .int .u8 9, .int .u8 255, .int .u8 3, .int .u8 4] 5)) (.slice (some ⟨w.heap.size, 0, none⟩) n 9) bl := by
  have hl : ([0, n, 1, 0, 2, 9, 255, 3, 4].take n).length = n := by rw [List.length_take]; simp; omega
  refine ⟨[0, n, 1, 0, 2, 9, 255, 3, 4].take n, hl, fun x hx => ?_, ?_⟩
  · have := List.mem_of_mem_take hx
    simp only [List.mem_cons, List.not_mem_nil, or_false] at this
    omega
  · have h := sl_blk (w := w.alloc (.cells #[.int .u8 0, .int .u8 (n : Int), .int .u8 1, .int .u8 0, .int .u8 2, .int .u8 9, .int .u8 255, .int .u8 3, .int .u8 4] 5)) (g := w.heap.size) (t := 5) ([0, n, 1, 0, 2, 9, 255, 3, 4].take n) 9 (u8s ([0, n, 1, 0, 2, 9, 255, 3, 4].drop n)) (by
      have e : u8s ([0, n, 1, 0, 2, 9, 255, 3, 4].take n) ++ u8s ([0, n, 1, 0, 2, 9, 255, 3, 4].drop n) = u8s [0, n, 1, 0, 2, 9, 255, 3, 4] := by
        unfold u8s
        rw [← List.map_append, List.take_append_drop]
      rw [e]
      exact heap_alloc_new w _) (by omega) (by decide)
    rw [hl] at h
    exact h
theorem szU8 : ∀ w, (sizeOf (Tryz.prog.elem 26)).run Tryz.prog w = .ok 1 w := fun w => by kernel_rfl
section
variable {ops : Array Oper} {rest : List Oper} {o : Oper} {a : Act} {w : World} {Q : Exit → Act → World → Prop}
/-- Bytes are made. -/
theorem armU8 (l : List Nat) (hw : Region.wanted o (yielded ops a.tmps) = true) (parts : Array (Nat × Operand)) (ho : o.op = .buildSlice 26 l.length parts) (vals : Array (Nat × Value)) (hv : (parts.map fun (i, x) => (i, a.eval x)) = vals)
    (hr : ∀ w, (Instr.buildSlice 26 l.length vals).run Tryz.prog w = .ok (.slice (some ⟨w.heap.size, 0, none⟩) l.length l.length) (w.alloc (.cells (u8s l).toArray 5))) (hl : l.length ≤ 1000)
    (h : ∀ w' g, Qt w w' → Sl w' (.slice (some ⟨g, 0, none⟩) l.length l.length) l → wpList Tryz.prog ops Q rest (a.put o.dst (.slice (some ⟨g, 0, none⟩) l.length l.length)) w') : wpList Tryz.prog ops Q (o :: rest) a w :=
  BigFrame.wpList_want hw fun _ hK => wpRun (bsT ho hv (hr w)) (hK _ _ (h _ _ ((Qt.refl w).alloc _) (sl_blk (t := 5) l l.length [] (by rw [List.append_nil]; exact heap_alloc_new w _) (Nat.le_refl _) (by omega))))
/-- Noughts are made. -/
theorem armMk (N : Nat) (h1 : 2 ≤ N) (hN : N ≤ 1000000) (hg : o.guard = none) (l c : Operand) (ho : o.op = .makeSlice 26 l c) (hl : a.eval l = .int .i64 (N : Int)) (hc : a.eval c = .int .i64 (N : Int))
    (h : ∀ w' g L, Qt w w' → L.length = N → (∀ x ∈ L, x < 256) → Sl w' (.slice (some ⟨g, 0, none⟩) N N) L → Sl w' (.slice (some ⟨g, 1, none⟩) (N - 1) (N - 1)) (L.drop 1) → wpList Tryz.prog ops Q rest (a.put o.dst (.slice (some ⟨g, 0, none⟩) N N)) w') : wpList Tryz.prog ops Q (o :: rest) a w := by
  refine wpList_plain hg fun K hK' => ?_
  have hrun := run_make_row' (P := Tryz.prog) 26 5 (.int .u8 0) 1 (by kernel_rfl) (by kernel_rfl) rfl .i64 .i64 N (by omega) (by omega) w
  have hcell : ∀ (j y : Nat), (List.replicate N 0)[j]? = some y → (w.alloc (.cells (madeCells #[.int .u8 0] N) 5)).cell? ⟨w.heap.size, 0 + j, none⟩ = some (.int .u8 (y : Int)) := fun j y hy => by
    rw [List.getElem?_replicate] at hy
    by_cases hj : j < N
    · rw [if_pos hj] at hy
      cases hy
      rw [Nat.zero_add, World.cell?_alloc_new, ← Array.getElem?_toList, toList_madeCells_one, List.getElem?_replicate, if_pos hj]; rfl
    · rw [if_neg hj] at hy
      cases hy
  have hlen : (List.replicate N 0).length = N := List.length_replicate
  have h2 := Sl.tail (w := w.alloc (.cells (madeCells #[.int .u8 0] N) 5)) (b := w.heap.size) (off := 0) (off' := 1) (c := N) (k := 1) (l := List.replicate N 0) (by rw [hlen]; exact Nat.le_refl _) ⟨by omega, by rw [hlen]; omega⟩ hcell (by rw [hlen]; omega) (.inl rfl)
  rw [hlen] at h2
  unfold Oper.wp
  simp [execOp, ho, hl, hc, hrun, Result.andThen]
  refine hK' _ _ (h _ _ (List.replicate N 0) ((Qt.refl w).alloc _) hlen (fun x hx => by rw [(List.mem_replicate.1 hx).2]; decide) ?_ h2)
  exact .inr ⟨w.heap.size, 0, N, by rw [hlen], by rw [hlen]; exact Nat.le_refl _, ⟨by omega, by rw [hlen]; omega⟩, hcell⟩
end
theorem tail_val (g N : Nat) (h : 2 ≤ N) : sliced (some ⟨g, 0, none⟩) (1 : Int).toNat N N 1 = .slice (some ⟨g, 1, none⟩) (N - 1) (N - 1) := by
  unfold sliced
  rw [if_neg (by show ¬ N = 1; omega)]
  rfl
set_option maxRecDepth 1000000 in
set_option maxHeartbeats 8000000 in
theorem wireEnds_any (W : World) :
    Calls Tryz.prog 3 #[] W fun e w' => e = .returned (.bool true) ∧ Qt W w' := by
  obtain ⟨ps, hps⟩ : ∃ fs, Tryz.prog.underlying 28 = some (.struct fs) := ⟨_, Tryz.underlying28⟩
  have HPS := Lib.hid hps
  clear hps
  go_enter Tryz.func3, Tryz.ntmps3
  go_wp2_with fail
  go_loopw [2] (fun i v => ∃ m : Nat, m ≤ 13 ∧ i = .int .i64 m ∧ Blk v W.heap.size 3 numsV ∧ Qt W v) (fun i _ => 13 - (intOf i).toNat)
  case atStart => exact ⟨0, by omega, rfl, (show Blk _ _ _ numsV from heap_alloc_new W _), (Qt.refl W).alloc _⟩
  case round =>
    obtain ⟨i, hi, rfl, hb1, hq⟩ := hrel
    by_cases hlt : i < 13
    · rename World => wi
      obtain ⟨z, hz, z0, z1⟩ := nums_at hlt
      have HB1 := Lib.hid hb1
      have HQ := Lib.hid hq
      have HZ := Lib.hid hz
      have HZ0 := Lib.hid z0
      have HZ1 := Lib.hid z1
      clear hb1 hq hz z0 z1
      go_wp2_with fail
      have hdi : decide ((i : Int) < 13) = true := decide_eq_true (by omega)
      simp only [hdi]
      clear hdi
      go_loopw [3] (fun i v => ∃ m : Nat, m ≤ 10 ∧ i = .int .i64 m ∧ Qt wi v) (fun i _ => 10 - (intOf i).toNat)
      case atStart => exact ⟨0, by omega, rfl, Qt.refl _⟩
      case round =>
        rename World => wk
        obtain ⟨k, hk, rfl, hqk⟩ := hrel
        have HQK := Lib.hid hqk
        have HB1 := Lib.hid (HB1.out.qt hqk)
        clear hqk
        by_cases hlt2 : k < 10
        · obtain ⟨U, hU, hU2⟩ : ∃ U : Nat, IntKind.u64.wrap z = (U : Int) ∧ U < 18446744073709551616 := ⟨(IntKind.u64.wrap z).toNat, by
              have : IntKind.u64.wrap z = z % 18446744073709551616 := rfl
              omega, by
              have : IntKind.u64.wrap z = z % 18446744073709551616 := rfl
              omega⟩
          have HUW := Lib.hid hU
          have HU := Lib.hid hU2
          clear hU hU2
          go_wp2_with fail
          refine wp_region_held (S := (fun u => u.cell? ⟨W.heap.size, i, none⟩ = some (.int .i64 z))) (by kernel_rfl) ?_
          change wpAnyH _ _ _ _ _ _ _ _ (World.drew _)
          refine genT fun F0 hA => ?_
          have z0 : F0.tmps.size = 122 := by rw [hA]; rfl
          have e1_0 : F0.eval (.tmp 1) = .slice (some ⟨W.heap.size, 0, none⟩) 13 13 := by rw [hA]; rfl
          have e2_0 : F0.eval (.tmp 2) = .int .i64 (i : Int) := by rw [hA]; rfl
          have e3_0 : F0.eval (.tmp 3) = .int .i64 (k : Int) := by rw [hA]; rfl
          have HA := Lib.hid hA
          clear hA
          have HS := Lib.hid (show (World.drew _).cell? ⟨W.heap.size, i, none⟩ = some (.int .i64 z) from ((HB1.out.qt (Qt.refl wk).drew).cell i).trans HZ.out)
          refine tkT (i := 0) (oi := _) (v := .int .i64 (k : Int)) rfl (by kernel_rfl) (by kernel_rfl) (by kernel_rfl) (fun _ _ _ h => h) HS.out (wantedT rfl) (fun w _ => mvT rfl e3_0 w) ?_
          intro F1 hF
          replace hF : F1 = F0.put (some 20) (.int .i64 (k : Int)) := hF
          have z1 : F1.tmps.size = 122 := by rw [hF]; simpa [Act.put] using z0
          have e1_1 := (show F1.eval (.tmp 1) = F0.eval (.tmp 1) by rw [hF]; exact evO (by decide)).trans e1_0
          have e2_1 := (show F1.eval (.tmp 2) = F0.eval (.tmp 2) by rw [hF]; exact evO (by decide)).trans e2_0
          have e20_1 : F1.eval (.tmp 20) = .int .i64 (k : Int) := by rw [hF]; exact evS (by rw [z0]; decide)
          have HF1 := Lib.hid hF
          clear hF e1_0 e2_0 e3_0
          refine tkT (i := 1) (oi := _) (v := .slice (some ⟨W.heap.size, 0, none⟩) 13 13) rfl (by kernel_rfl) (by kernel_rfl) (by kernel_rfl) (fun _ _ _ h => h) HS.out (wantedT rfl) (fun w _ => mvT rfl e1_1 w) ?_
          intro F2 hF
          replace hF : F2 = F1.put (some 21) (.slice (some ⟨W.heap.size, 0, none⟩) 13 13) := hF
          have z2 : F2.tmps.size = 122 := by rw [hF]; simpa [Act.put] using z1
          have e1_2 := (show F2.eval (.tmp 1) = F1.eval (.tmp 1) by rw [hF]; exact evO (by decide)).trans e1_1
          have e2_2 := (show F2.eval (.tmp 2) = F1.eval (.tmp 2) by rw [hF]; exact evO (by decide)).trans e2_1
          have e20_2 := (show F2.eval (.tmp 20) = F1.eval (.tmp 20) by rw [hF]; exact evO (by decide)).trans e20_1
          have e21_2 : F2.eval (.tmp 21) = .slice (some ⟨W.heap.size, 0, none⟩) 13 13 := by rw [hF]; exact evS (by rw [z1]; decide)
          have HF2 := Lib.hid hF
          clear hF e1_1 e2_1 e20_1
          refine tkT (i := 2) (oi := _) (v := .int .i64 (i : Int)) rfl (by kernel_rfl) (by kernel_rfl) (by kernel_rfl) (fun _ _ _ h => h) HS.out (wantedT rfl) (fun w _ => mvT rfl e2_2 w) ?_
          intro F3 hF
          replace hF : F3 = F2.put (some 22) (.int .i64 (i : Int)) := hF
          have z3 : F3.tmps.size = 122 := by rw [hF]; simpa [Act.put] using z2
          have e1_3 := (show F3.eval (.tmp 1) = F2.eval (.tmp 1) by rw [hF]; exact evO (by decide)).trans e1_2
          have e2_3 := (show F3.eval (.tmp 2) = F2.eval (.tmp 2) by rw [hF]; exact evO (by decide)).trans e2_2
          have e20_3 := (show F3.eval (.tmp 20) = F2.eval (.tmp 20) by rw [hF]; exact evO (by decide)).trans e20_2
          have e21_3 := (show F3.eval (.tmp 21) = F2.eval (.tmp 21) by rw [hF]; exact evO (by decide)).trans e21_2
          have e22_3 : F3.eval (.tmp 22) = .int .i64 (i : Int) := by rw [hF]; exact evS (by rw [z2]; decide)
          have HF3 := Lib.hid hF
          clear hF e1_2 e2_2 e20_2 e21_2
          refine tkT (i := 3) (oi := _) (v := .pointer (some ⟨W.heap.size, i, none⟩)) rfl (by kernel_rfl) (by kernel_rfl) (by kernel_rfl) (fun _ _ _ h => h) HS.out (wantedT rfl) (fun w _ => iaT rfl e21_3 e22_3 (by go_simp)) ?_
          intro F4 hF
          replace hF : F4 = F3.put (some 23) (.pointer (some ⟨W.heap.size, i, none⟩)) := hF
          have z4 : F4.tmps.size = 122 := by rw [hF]; simpa [Act.put] using z3
          have e1_4 := (show F4.eval (.tmp 1) = F3.eval (.tmp 1) by rw [hF]; exact evO (by decide)).trans e1_3
          have e2_4 := (show F4.eval (.tmp 2) = F3.eval (.tmp 2) by rw [hF]; exact evO (by decide)).trans e2_3
          have e20_4 := (show F4.eval (.tmp 20) = F3.eval (.tmp 20) by rw [hF]; exact evO (by decide)).trans e20_3
          have e23_4 : F4.eval (.tmp 23) = .pointer (some ⟨W.heap.size, i, none⟩) := by rw [hF]; exact evS (by rw [z3]; decide)
          have HF4 := Lib.hid hF
          clear hF e1_3 e2_3 e20_3 e21_3 e22_3
          refine tkT (i := 4) (oi := _) (v := .int .i64 z) rfl (by kernel_rfl) (by kernel_rfl) (by kernel_rfl) (fun _ _ _ h => h) HS.out (wantedT rfl) (fun w hs => ldT rfl e23_4 (by go_simp)) ?_
          intro F5 hF
          replace hF : F5 = F4.put (some 24) (.int .i64 z) := hF
          have z5 : F5.tmps.size = 122 := by rw [hF]; simpa [Act.put] using z4
          have e1_5 := (show F5.eval (.tmp 1) = F4.eval (.tmp 1) by rw [hF]; exact evO (by decide)).trans e1_4
          have e2_5 := (show F5.eval (.tmp 2) = F4.eval (.tmp 2) by rw [hF]; exact evO (by decide)).trans e2_4
          have e20_5 := (show F5.eval (.tmp 20) = F4.eval (.tmp 20) by rw [hF]; exact evO (by decide)).trans e20_4
          have e24_5 : F5.eval (.tmp 24) = .int .i64 z := by rw [hF]; exact evS (by rw [z4]; decide)
          have HF5 := Lib.hid hF
          clear hF e1_4 e2_4 e20_4 e23_4
          refine tkT (i := 5) (oi := _) (v := .slice (some ⟨W.heap.size, 0, none⟩) 13 13) rfl (by kernel_rfl) (by kernel_rfl) (by kernel_rfl) (fun _ _ _ h => h) HS.out (wantedT rfl) (fun w _ => mvT rfl e1_5 w) ?_
          intro F6 hF
          replace hF : F6 = F5.put (some 25) (.slice (some ⟨W.heap.size, 0, none⟩) 13 13) := hF
          have z6 : F6.tmps.size = 122 := by rw [hF]; simpa [Act.put] using z5
          have e2_6 := (show F6.eval (.tmp 2) = F5.eval (.tmp 2) by rw [hF]; exact evO (by decide)).trans e2_5
          have e20_6 := (show F6.eval (.tmp 20) = F5.eval (.tmp 20) by rw [hF]; exact evO (by decide)).trans e20_5
          have e24_6 := (show F6.eval (.tmp 24) = F5.eval (.tmp 24) by rw [hF]; exact evO (by decide)).trans e24_5
          have e25_6 : F6.eval (.tmp 25) = .slice (some ⟨W.heap.size, 0, none⟩) 13 13 := by rw [hF]; exact evS (by rw [z5]; decide)
          have HF6 := Lib.hid hF
          clear hF e1_5 e2_5 e20_5 e24_5
          refine tkT (i := 6) (oi := _) (v := .int .i64 (i : Int)) rfl (by kernel_rfl) (by kernel_rfl) (by kernel_rfl) (fun _ _ _ h => h) HS.out (wantedT rfl) (fun w _ => mvT rfl e2_6 w) ?_
          intro F7 hF
          replace hF : F7 = F6.put (some 26) (.int .i64 (i : Int)) := hF
          have z7 : F7.tmps.size = 122 := by rw [hF]; simpa [Act.put] using z6
          have e20_7 := (show F7.eval (.tmp 20) = F6.eval (.tmp 20) by rw [hF]; exact evO (by decide)).trans e20_6
          have e24_7 := (show F7.eval (.tmp 24) = F6.eval (.tmp 24) by rw [hF]; exact evO (by decide)).trans e24_6
          have e25_7 := (show F7.eval (.tmp 25) = F6.eval (.tmp 25) by rw [hF]; exact evO (by decide)).trans e25_6
          have e26_7 : F7.eval (.tmp 26) = .int .i64 (i : Int) := by rw [hF]; exact evS (by rw [z6]; decide)
          have HF7 := Lib.hid hF
          clear hF e2_6 e20_6 e24_6 e25_6
          refine tkT (i := 7) (oi := _) (v := .pointer (some ⟨W.heap.size, i, none⟩)) rfl (by kernel_rfl) (by kernel_rfl) (by kernel_rfl) (fun _ _ _ h => h) HS.out (wantedT rfl) (fun w _ => iaT rfl e25_7 e26_7 (by go_simp)) ?_
          intro F8 hF
          replace hF : F8 = F7.put (some 27) (.pointer (some ⟨W.heap.size, i, none⟩)) := hF
          have z8 : F8.tmps.size = 122 := by rw [hF]; simpa [Act.put] using z7
          have e20_8 := (show F8.eval (.tmp 20) = F7.eval (.tmp 20) by rw [hF]; exact evO (by decide)).trans e20_7
          have e24_8 := (show F8.eval (.tmp 24) = F7.eval (.tmp 24) by rw [hF]; exact evO (by decide)).trans e24_7
          have e27_8 : F8.eval (.tmp 27) = .pointer (some ⟨W.heap.size, i, none⟩) := by rw [hF]; exact evS (by rw [z7]; decide)
          have HF8 := Lib.hid hF
          clear hF e20_7 e24_7 e25_7 e26_7
          refine tkT (i := 8) (oi := _) (v := .int .i64 z) rfl (by kernel_rfl) (by kernel_rfl) (by kernel_rfl) (fun _ _ _ h => h) HS.out (wantedT rfl) (fun w hs => ldT rfl e27_8 (by go_simp)) ?_
          intro F9 hF
          replace hF : F9 = F8.put (some 28) (.int .i64 z) := hF
          have z9 : F9.tmps.size = 122 := by rw [hF]; simpa [Act.put] using z8
          have e20_9 := (show F9.eval (.tmp 20) = F8.eval (.tmp 20) by rw [hF]; exact evO (by decide)).trans e20_8
          have e24_9 := (show F9.eval (.tmp 24) = F8.eval (.tmp 24) by rw [hF]; exact evO (by decide)).trans e24_8
          have e28_9 : F9.eval (.tmp 28) = .int .i64 z := by rw [hF]; exact evS (by rw [z8]; decide)
          have HF9 := Lib.hid hF
          clear hF e20_8 e24_8 e27_8
          refine tkT (i := 9) (oi := _) (v := .int .u64 (U : Int)) rfl (by kernel_rfl) (by kernel_rfl) (by kernel_rfl) (fun _ _ _ h => h) HS.out (wantedT rfl) (fun w hs => cvT rfl e28_9 (by go_simp; exact HUW.out)) ?_
          intro F10 hF
          replace hF : F10 = F9.put (some 29) (.int .u64 (U : Int)) := hF
          have z10 : F10.tmps.size = 122 := by rw [hF]; simpa [Act.put] using z9
          have e20_10 := (show F10.eval (.tmp 20) = F9.eval (.tmp 20) by rw [hF]; exact evO (by decide)).trans e20_9
          have e24_10 := (show F10.eval (.tmp 24) = F9.eval (.tmp 24) by rw [hF]; exact evO (by decide)).trans e24_9
          have e29_10 : F10.eval (.tmp 29) = .int .u64 (U : Int) := by rw [hF]; exact evS (by rw [z9]; decide)
          have HF10 := Lib.hid hF
          clear hF e20_9 e24_9 e28_9
          refine tkT (i := 10) (oi := _) (v := .agg (u8s Hx).toArray) rfl (by kernel_rfl) (by kernel_rfl) (by kernel_rfl) (fun _ _ _ h => h) HS.out (wantedT rfl) (fun w hs => bdT rfl (vals := #[(0, .int .u8 1), (1, .int .u8 2), (2, .int .u8 255)]) (by simp only [List.map_toArray, List.map_cons, List.map_nil] <;> rfl) (by kernel_rfl) w) ?_
          intro F11 hF
          replace hF : F11 = F10.put (some 30) (.agg (u8s Hx).toArray) := hF
          have z11 : F11.tmps.size = 122 := by rw [hF]; simpa [Act.put] using z10
          have e20_11 := (show F11.eval (.tmp 20) = F10.eval (.tmp 20) by rw [hF]; exact evO (by decide)).trans e20_10
          have e24_11 := (show F11.eval (.tmp 24) = F10.eval (.tmp 24) by rw [hF]; exact evO (by decide)).trans e24_10
          have e29_11 := (show F11.eval (.tmp 29) = F10.eval (.tmp 29) by rw [hF]; exact evO (by decide)).trans e29_10
          have e30_11 : F11.eval (.tmp 30) = .agg (u8s Hx).toArray := by rw [hF]; exact evS (by rw [z10]; decide)
          have HF11 := Lib.hid hF
          clear hF e20_10 e24_10 e29_10
          refine wpAnyH_free [11, 12, 13] [] (fun i => if i = 12 then [11] else []) (fun i => [0, 0, 0, 0, 0, 0, 0, 0, 0, 0, 0, 31, 32, 4, 0].getD i 0) (RA wk.heap.size k z U) [#[true, true, true, true, true, true, true, true, true, true, true, false, false, false, false], #[true, true, true, true, true, true, true, true, true, true, true, true, false, false, false], #[true, true, true, true, true, true, true, true, true, true, true, false, false, true, false], #[true, true, true, true, true, true, true, true, true, true, true, true, true, false, false], #[true, true, true, true, true, true, true, true, true, true, true, true, false, true, false], #[true, true, true, true, true, true, true, true, true, true, true, true, true, true, false]] (fun l => (l.toList.filter (fun b => !b)).length - 1) F11 _ 1 RA.qt (fun w' q => (q.cell (blk_of_cell HS.out)).trans HS.out) (by rw [z11]; decide) (by decide) (by decide) (by decide +kernel) (by decide +kernel) ?_ (by decide +kernel) ?_ 3 _ (by decide +kernel) (by decide +kernel) (by decide +kernel)
          · intro j hj a' wq K' q hsz hfr hpre hK
            simp only [List.mem_cons, List.not_mem_nil, or_false] at hj
            rcases hj with rfl | rfl | rfl
            · refine manyT (i := 11) (oi := _) rfl (wantedT rfl) ?_
              refine wpRun (v := .slice (some ⟨wq.heap.size, 0, none⟩) 2 2) (w' := wq.alloc (.cells (u8s [5, 6]).toArray 5)) (bsT rfl (vals := #[(0, .int .u8 5), (1, .int .u8 6)]) (by simp only [List.map_toArray, List.map_cons, List.map_nil] <;> rfl) (by go_simp; try rfl)) ?_
              exact hK _ _ ((Qt.refl _).alloc _) ⟨_, rfl, heap_alloc_new wq _⟩ (fun h => absurd h (by decide))
            · refine manyT (i := 12) (oi := _) rfl (wantedT rfl) ?_
              obtain ⟨g, hg, tg⟩ := (show RA wk.heap.size k z U 11 (a'.eval (.tmp 31)) wq from hpre 11 (by decide))
              refine wpRun (v := .agg (putC (xd k z U) (.slice (some ⟨g, 0, none⟩) 2 2)).toArray) (w' := wq) (bdT rfl (vals := #[(0, .int .i64 (k : Int)), (1, .int .i64 z), (2, .int .u64 (U : Int)), (3, .agg (u8s Hx).toArray), (4, .slice (some ⟨g, 0, none⟩) 2 2), (5, .string (str [116, 101, 120, 116]))]) (by simp only [List.map_toArray, List.map_cons, List.map_nil, (hfr 20 (by decide)).trans e20_11, (hfr 24 (by decide)).trans e24_11, (hfr 29 (by decide)).trans e29_11, (hfr 30 (by decide)).trans e30_11, hg] <;> rfl) (by kernel_rfl) wq) ?_
              exact hK _ _ (Qt.refl _) ⟨g, rfl, tg⟩ (fun h => absurd h (by decide))
            · refine manyT (i := 13) (oi := _) rfl (wantedT rfl) ?_
              refine wpAl rfl zput (fun w => by go_simp; try rfl) ?_
              intro g w' qa sa ba
              exact hK _ _ qa ⟨g, Nat.le_trans q.size sa, rfl, ba⟩ (fun h => absurd h (by decide))
          intro listed hL hl0 a' wq hsz hdf hfr q hr hne
          have hl : ∀ l ∈ ([#[true, true, true, true, true, true, true, true, true, true, true, false, false, false, false], #[true, true, true, true, true, true, true, true, true, true, true, true, false, false, false], #[true, true, true, true, true, true, true, true, true, true, true, false, false, true, false], #[true, true, true, true, true, true, true, true, true, true, true, true, true, false, false], #[true, true, true, true, true, true, true, true, true, true, true, true, false, true, false], #[true, true, true, true, true, true, true, true, true, true, true, true, true, true, false]] : List (Array Bool)), (l.toList.filter (fun b => !b)).length - 1 = 0 → l = #[true, true, true, true, true, true, true, true, true, true, true, true, true, true, false] := by decide +kernel
          obtain rfl := hl listed hL hl0
          clear hL hl0 hl hne
          obtain ⟨gb, e32, hbb⟩ := (show RA wk.heap.size k z U 12 (a'.eval (.tmp 32)) wq from hr 12 (by decide))
          obtain ⟨gx, hgx, e4, hbx⟩ := (show RA wk.heap.size k z U 13 (a'.eval (.tmp 4)) wq from hr 13 (by decide))
          obtain ⟨v31, e31⟩ : ∃ v, a'.eval (.tmp 31) = v := ⟨_, rfl⟩
          have hne : gb ≠ gx := fun e => by
            subst e
            have h1 := hbb.cell 2
            rw [hbx.cell] at h1
            cases h1
          have hE : a' = ((F11.put (some 31) v31).put (some 32) (.agg (putC (xd k z U) (.slice (some ⟨gb, 0, none⟩) 2 2)).toArray)).put (some 4) (.pointer (some ⟨gx, 0, none⟩)) := by
            refine act_ext (by simpa [Act.put] using hsz) (by simpa [Act.put] using hdf) (fun s => ?_)
            by_cases s4 : s = 4
            · subst s4; rw [evS (by simp [Act.put, z11])]; exact e4
            rw [evO (fun e => s4 e.symm)]
            by_cases s32 : s = 32
            · subst s32; rw [evS (by simp [Act.put, z11])]; exact e32
            rw [evO (fun e => s32 e.symm)]
            by_cases s31 : s = 31
            · subst s31; rw [evS (by simp [Act.put, z11])]; exact e31
            rw [evO (fun e => s31 e.symm)]
            refine hfr s (fun i hi => ?_)
            simp only [List.mem_cons, List.not_mem_nil, or_false] at hi
            rcases hi with rfl | rfl | rfl
            · exact fun e => s31 e.symm
            · exact fun e => s32 e.symm
            · exact fun e => s4 e.symm
          refine aloneT (i := 14) (oi := _) rfl (by kernel_rfl) (wantedT rfl) ?_
          refine wpStM rfl e4 (cells := putC (xd k z U) (.slice (some ⟨gb, 0, none⟩) 2 2)) e32 (t := 28) (c := zput) hbx (by rw [putC_lenU _ _ rfl]; decide) (by rw [putC_lenU _ _ rfl]; kernel_rfl) (putC_oneU _ _ _ _) ?_
          intro w8 og8 hz8 hb8
          have q8 : Qt (World.drew wk) w8 := og8.qt q hgx
          refine ⟨(q8.cell (blk_of_cell HS.out)).trans HS.out, ?_⟩
          refine wpAnyH_done (by kernel_rfl) ?_ _
          rw [hE, HF11.out, HF10.out, HF9.out, HF8.out, HF7.out, HF6.out, HF5.out, HF4.out, HF3.out, HF2.out, HF1.out, HA.out]
          simp only [Act.put, List.setIfInBounds_toArray, List.set_cons_succ, List.set_cons_zero]
          have HX := Lib.hid (show Blk w8 gx 28 (putC (xd k z U) (.slice (some ⟨gb, 0, none⟩) 2 2)) from by rw [show List.take 0 zput ++ putC (xd k z U) (.slice (some ⟨gb, 0, none⟩) 2 2) ++ List.drop (0 + (putC (xd k z U) (.slice (some ⟨gb, 0, none⟩) 2 2)).length) zput = putC (xd k z U) (.slice (some ⟨gb, 0, none⟩) 2 2) from by rw [putC_lenU _ _ rfl, List.take_zero, List.nil_append, List.drop_of_length_le (by decide), List.append_nil]] at hb8; exact hb8)
          have HBB := Lib.hid (hbb.og og8 hne)
          have HQ8 := Lib.hid ((Qt.refl wk).drew.trans (show Qt (World.drew wk) w8 from q8))
          have QX := Lib.hid (Qt.refl w8)
          clear hE hsz hdf hfr hr q q8 og8 hz8 hb8 hbb hbx e4 e31 e32 hgx hne HS HF1 HF2 HF3 HF4 HF5 HF6 HF7 HF8 HF9 HF10 HF11 HA z0 z1 z2 z3 z4 z5 z6 z7 z8 z9 z10 z11 e20_11 e24_11 e29_11 e30_11
          go_wp2_with (first
            | (refine armSkip rfl rfl rfl rfl ?_)
            | (refine armLdG 28 (.tmp 4) rfl gx rfl (HX.out.qt QX.out) (.struct ps) HPS.out rfl (by rw [putC_lenU _ _ rfl]; kernel_rfl) (by first | exact wantedT rfl | exact (wantedB rfl rfl rfl).trans rfl) ?_)
            | (refine armPuts [(xd k z U, .slice (some ⟨gb, 0, none⟩) 2 2)] (by first | exact wantedT rfl | exact (wantedB rfl rfl rfl).trans rfl) _ rfl (by simp only [List.map_toArray, List.map_cons, List.map_nil]; rfl) (List.forall_mem_cons.2 ⟨⟨xd_ok _ _ _ (by omega) (by omega) HZ0.out HZ1.out HU.out, xd_rd (HBB.out.qt QX.out)⟩, (fun x hx => by cases hx)⟩) (by simp) (by simp) ?_; intro w' g' q' hp'; (have HP1 := Lib.hid hp'); (have QX := Lib.hid (QX.out.trans q')); clear q' hp'))
          refine (wireWrites_any _ [(xd k z U, .slice (some ⟨gb, 0, none⟩) 2 2)] _ HP1.out).mono ?_
          rintro e w' ⟨rfl, q'⟩
          have QX := Lib.hid (QX.out.trans q')
          clear q'
          go_wp2_with (first
            | (refine armSkip rfl rfl rfl rfl ?_)
            | (refine armLdG 28 (.tmp 4) rfl gx rfl (HX.out.qt QX.out) (.struct ps) HPS.out rfl (by rw [putC_lenU _ _ rfl]; kernel_rfl) (by first | exact wantedT rfl | exact (wantedB rfl rfl rfl).trans rfl) ?_)
            | (refine armPuts [(pd 0 3 [], .slice none 0 0), (xd k z U, .slice (some ⟨gb, 0, none⟩) 2 2), (pd 0 4 [], .slice none 0 0)] (by first | exact wantedT rfl | exact (wantedB rfl rfl rfl).trans rfl) _ rfl (by simp only [List.map_toArray, List.map_cons, List.map_nil]; rfl) (List.forall_mem_cons.2 ⟨⟨pd_ok _ _ [] (by omega) (by omega) (by omega) (by omega) (by simp) (by decide), rd_nil _⟩, (List.forall_mem_cons.2 ⟨⟨xd_ok _ _ _ (by omega) (by omega) HZ0.out HZ1.out HU.out, xd_rd (HBB.out.qt QX.out)⟩, (List.forall_mem_cons.2 ⟨⟨pd_ok _ _ [] (by omega) (by omega) (by omega) (by omega) (by simp) (by decide), rd_nil _⟩, (fun x hx => by cases hx)⟩)⟩)⟩) (by simp) (by simp) ?_; intro w' g' q' hp'; (have HP2 := Lib.hid hp'); (have QX := Lib.hid (QX.out.trans q')); clear q' hp'))
          refine (wireWrites_any _ [(pd 0 3 [], .slice none 0 0), (xd k z U, .slice (some ⟨gb, 0, none⟩) 2 2), (pd 0 4 [], .slice none 0 0)] _ HP2.out).mono ?_
          rintro e w' ⟨rfl, q'⟩
          have QX := Lib.hid (QX.out.trans q')
          clear q'
          go_wp2_with fail
          rename World => w9
          go_loopw [5] (fun i v => ∃ m : Nat, m ≤ 10 ∧ i = .int .i64 m ∧ Qt w9 v) (fun i _ => 10 - (intOf i).toNat)
          case atStart => exact ⟨0, by omega, rfl, Qt.refl _⟩
          case round =>
            rename World => wn
            obtain ⟨n, hn, rfl, hqn⟩ := hrel
            have HQN := Lib.hid hqn
            have QX := Lib.hid (QX.out.trans hqn)
            clear hqn
            by_cases hlt3 : n < 10
            · have i1 : (n : Int) < 10 := by omega
              have i2 : IntKind.u8.wrap (n : Int) = (n : Int) := by show (n : Int) % 256 = n; omega
              obtain ⟨bl, hbl, hb8, hsl⟩ := nine wn n hlt3
              have HBL := Lib.hid hbl
              have H8 := Lib.hid hb8
              have HSL := Lib.hid hsl
              clear hbl hb8 hsl
              have QM := Lib.hid ((Qt.refl wn).alloc (.cells #[.int .u8 0, .int .u8 (n : Int), .int .u8 1, .int .u8 0, .int .u8 2, .int .u8 9, .int .u8 255, .int .u8 3, .int .u8 4] 5))
              go_wp2_with fail
              generalize wn.alloc (.cells #[.int .u8 0, .int .u8 (n : Int), .int .u8 1, .int .u8 0, .int .u8 2, .int .u8 9, .int .u8 255, .int .u8 3, .int .u8 4] 5) = wm at *
              refine wp_region_held (S := (fun u => u.rangeAt gx 0 (putC (xd k z U) (.slice (some ⟨gb, 0, none⟩) 2 2)))) (by kernel_rfl) ?_
              change wpAnyH _ _ _ _ _ _ _ _ (World.drew _)
              refine genT fun F0 hA => ?_
              have z0 : F0.tmps.size = 122 := by rw [hA]; rfl
              have e3_0 : F0.eval (.tmp 3) = .int .i64 (k : Int) := by rw [hA]; rfl
              have e4_0 : F0.eval (.tmp 4) = .pointer (some ⟨gx, 0, none⟩) := by rw [hA]; rfl
              have e6_0 : F0.eval (.tmp 6) = .slice (some ⟨wn.heap.size, 0, none⟩) n 9 := by rw [hA]; rfl
              have HA := Lib.hid hA
              clear hA
              have HS := Lib.hid (show World.rangeAt (World.drew _) _ _ _ from (show Blk (World.drew _) _ _ _ from (HX.out.qt ((QX.out.trans QM.out).drew))).range 0 (putC (xd k z U) (.slice (some ⟨gb, 0, none⟩) 2 2)) (by rw [List.drop_zero, List.take_length]))
              refine tkT (i := 0) (oi := _) (v := .slice (some ⟨wn.heap.size, 0, none⟩) n 9) rfl (by kernel_rfl) (by kernel_rfl) (by kernel_rfl) (fun _ _ _ h => h) HS.out (wantedT rfl) (fun w _ => mvT rfl e6_0 w) ?_
              intro F1 hF
              replace hF : F1 = F0.put (some 54) (.slice (some ⟨wn.heap.size, 0, none⟩) n 9) := hF
              have z1 : F1.tmps.size = 122 := by rw [hF]; simpa [Act.put] using z0
              have e3_1 := (show F1.eval (.tmp 3) = F0.eval (.tmp 3) by rw [hF]; exact evO (by decide)).trans e3_0
              have e4_1 := (show F1.eval (.tmp 4) = F0.eval (.tmp 4) by rw [hF]; exact evO (by decide)).trans e4_0
              have e6_1 := (show F1.eval (.tmp 6) = F0.eval (.tmp 6) by rw [hF]; exact evO (by decide)).trans e6_0
              have e54_1 : F1.eval (.tmp 54) = .slice (some ⟨wn.heap.size, 0, none⟩) n 9 := by rw [hF]; exact evS (by rw [z0]; decide)
              have HF1 := Lib.hid hF
              clear hF e3_0 e4_0 e6_0
              refine tkT (i := 1) (oi := _) (v := .agg (putC (xd k z U) (.slice (some ⟨gb, 0, none⟩) 2 2)).toArray) rfl (by kernel_rfl) (by kernel_rfl) (by kernel_rfl) (fun _ _ _ h => h) HS.out (wantedT rfl) (fun w hs => lrT rfl e4_1 hs (d := .struct ps) HPS.out rfl (by rw [putC_lenU _ _ rfl]; kernel_rfl)) ?_
              intro F2 hF
              replace hF : F2 = F1.put (some 55) (.agg (putC (xd k z U) (.slice (some ⟨gb, 0, none⟩) 2 2)).toArray) := hF
              have z2 : F2.tmps.size = 122 := by rw [hF]; simpa [Act.put] using z1
              have e3_2 := (show F2.eval (.tmp 3) = F1.eval (.tmp 3) by rw [hF]; exact evO (by decide)).trans e3_1
              have e4_2 := (show F2.eval (.tmp 4) = F1.eval (.tmp 4) by rw [hF]; exact evO (by decide)).trans e4_1
              have e6_2 := (show F2.eval (.tmp 6) = F1.eval (.tmp 6) by rw [hF]; exact evO (by decide)).trans e6_1
              have e54_2 := (show F2.eval (.tmp 54) = F1.eval (.tmp 54) by rw [hF]; exact evO (by decide)).trans e54_1
              have e55_2 : F2.eval (.tmp 55) = .agg (putC (xd k z U) (.slice (some ⟨gb, 0, none⟩) 2 2)).toArray := by rw [hF]; exact evS (by rw [z1]; decide)
              have HF2 := Lib.hid hF
              clear hF e3_1 e4_1 e6_1 e54_1
              refine tkT (i := 2) (oi := _) (v := .int .i64 (k : Int)) rfl (by kernel_rfl) (by kernel_rfl) (by kernel_rfl) (fun _ _ _ h => h) HS.out (wantedT rfl) (fun w _ => mvT rfl e3_2 w) ?_
              intro F3 hF
              replace hF : F3 = F2.put (some 56) (.int .i64 (k : Int)) := hF
              have z3 : F3.tmps.size = 122 := by rw [hF]; simpa [Act.put] using z2
              have e4_3 := (show F3.eval (.tmp 4) = F2.eval (.tmp 4) by rw [hF]; exact evO (by decide)).trans e4_2
              have e6_3 := (show F3.eval (.tmp 6) = F2.eval (.tmp 6) by rw [hF]; exact evO (by decide)).trans e6_2
              have e54_3 := (show F3.eval (.tmp 54) = F2.eval (.tmp 54) by rw [hF]; exact evO (by decide)).trans e54_2
              have e55_3 := (show F3.eval (.tmp 55) = F2.eval (.tmp 55) by rw [hF]; exact evO (by decide)).trans e55_2
              have e56_3 : F3.eval (.tmp 56) = .int .i64 (k : Int) := by rw [hF]; exact evS (by rw [z2]; decide)
              have HF3 := Lib.hid hF
              clear hF e3_2 e4_2 e6_2 e54_2 e55_2
              refine tkT (i := 3) (oi := _) (v := .agg (putC (pd k 2 []) (.slice none 0 0)).toArray) rfl (by kernel_rfl) (by kernel_rfl) (by kernel_rfl) (fun _ _ _ h => h) HS.out (wantedT rfl) (fun w hs => bdT rfl (vals := #[(0, .int .i64 (k : Int)), (1, .int .i64 2)]) (by simp only [List.map_toArray, List.map_cons, List.map_nil, e56_3] <;> rfl) (by kernel_rfl) w) ?_
              intro F4 hF
              replace hF : F4 = F3.put (some 57) (.agg (putC (pd k 2 []) (.slice none 0 0)).toArray) := hF
              have z4 : F4.tmps.size = 122 := by rw [hF]; simpa [Act.put] using z3
              have e4_4 := (show F4.eval (.tmp 4) = F3.eval (.tmp 4) by rw [hF]; exact evO (by decide)).trans e4_3
              have e6_4 := (show F4.eval (.tmp 6) = F3.eval (.tmp 6) by rw [hF]; exact evO (by decide)).trans e6_3
              have e54_4 := (show F4.eval (.tmp 54) = F3.eval (.tmp 54) by rw [hF]; exact evO (by decide)).trans e54_3
              have e55_4 := (show F4.eval (.tmp 55) = F3.eval (.tmp 55) by rw [hF]; exact evO (by decide)).trans e55_3
              have e57_4 : F4.eval (.tmp 57) = .agg (putC (pd k 2 []) (.slice none 0 0)).toArray := by rw [hF]; exact evS (by rw [z3]; decide)
              have HF4 := Lib.hid hF
              clear hF e4_3 e6_3 e54_3 e55_3 e56_3
              refine tkT (i := 4) (oi := _) (v := .agg (putC (pd 0 0 []) (.slice none 0 0)).toArray) rfl (by kernel_rfl) (by kernel_rfl) (by kernel_rfl) (fun _ _ _ h => h) HS.out (wantedT rfl) (fun w hs => bdT rfl (vals := #[(0, .int .i64 0)]) (by simp only [List.map_toArray, List.map_cons, List.map_nil] <;> rfl) (by kernel_rfl) w) ?_
              intro F5 hF
              replace hF : F5 = F4.put (some 58) (.agg (putC (pd 0 0 []) (.slice none 0 0)).toArray) := hF
              have z5 : F5.tmps.size = 122 := by rw [hF]; simpa [Act.put] using z4
              have e4_5 := (show F5.eval (.tmp 4) = F4.eval (.tmp 4) by rw [hF]; exact evO (by decide)).trans e4_4
              have e6_5 := (show F5.eval (.tmp 6) = F4.eval (.tmp 6) by rw [hF]; exact evO (by decide)).trans e6_4
              have e54_5 := (show F5.eval (.tmp 54) = F4.eval (.tmp 54) by rw [hF]; exact evO (by decide)).trans e54_4
              have e55_5 := (show F5.eval (.tmp 55) = F4.eval (.tmp 55) by rw [hF]; exact evO (by decide)).trans e55_4
              have e57_5 := (show F5.eval (.tmp 57) = F4.eval (.tmp 57) by rw [hF]; exact evO (by decide)).trans e57_4
              have e58_5 : F5.eval (.tmp 58) = .agg (putC (pd 0 0 []) (.slice none 0 0)).toArray := by rw [hF]; exact evS (by rw [z4]; decide)
              have HF5 := Lib.hid hF
              clear hF e4_4 e6_4 e54_4 e55_4 e57_4
              refine tkT (i := 5) (oi := _) (v := .agg (putC (xd k z U) (.slice (some ⟨gb, 0, none⟩) 2 2)).toArray) rfl (by kernel_rfl) (by kernel_rfl) (by kernel_rfl) (fun _ _ _ h => h) HS.out (wantedT rfl) (fun w hs => lrT rfl e4_5 hs (d := .struct ps) HPS.out rfl (by rw [putC_lenU _ _ rfl]; kernel_rfl)) ?_
              intro F6 hF
              replace hF : F6 = F5.put (some 59) (.agg (putC (xd k z U) (.slice (some ⟨gb, 0, none⟩) 2 2)).toArray) := hF
              have z6 : F6.tmps.size = 122 := by rw [hF]; simpa [Act.put] using z5
              have e4_6 := (show F6.eval (.tmp 4) = F5.eval (.tmp 4) by rw [hF]; exact evO (by decide)).trans e4_5
              have e6_6 := (show F6.eval (.tmp 6) = F5.eval (.tmp 6) by rw [hF]; exact evO (by decide)).trans e6_5
              have e54_6 := (show F6.eval (.tmp 54) = F5.eval (.tmp 54) by rw [hF]; exact evO (by decide)).trans e54_5
              have e55_6 := (show F6.eval (.tmp 55) = F5.eval (.tmp 55) by rw [hF]; exact evO (by decide)).trans e55_5
              have e57_6 := (show F6.eval (.tmp 57) = F5.eval (.tmp 57) by rw [hF]; exact evO (by decide)).trans e57_5
              have e58_6 := (show F6.eval (.tmp 58) = F5.eval (.tmp 58) by rw [hF]; exact evO (by decide)).trans e58_5
              have e59_6 : F6.eval (.tmp 59) = .agg (putC (xd k z U) (.slice (some ⟨gb, 0, none⟩) 2 2)).toArray := by rw [hF]; exact evS (by rw [z5]; decide)
              have HF6 := Lib.hid hF
              clear hF e4_5 e6_5 e54_5 e55_5 e57_5 e58_5
              refine aloneT (i := 6) (oi := _) rfl (by kernel_rfl) (wantedT rfl) ?_
              refine wpPuts [(xd k z U, .slice (some ⟨gb, 0, none⟩) 2 2), (pd k 2 [], .slice none 0 0), (pd 0 0 [], .slice none 0 0), (xd k z U, .slice (some ⟨gb, 0, none⟩) 2 2)] rfl (by simp only [List.map_toArray, List.map_cons, List.map_nil, e55_6, e57_6, e58_6, e59_6]; rfl) (List.forall_mem_cons.2 ⟨⟨xd_ok _ _ _ (by omega) (by omega) HZ0.out HZ1.out HU.out, xd_rd (HBB.out.qt ((QX.out.trans QM.out).drew))⟩, (List.forall_mem_cons.2 ⟨⟨pd_ok _ _ [] (by omega) (by omega) (by omega) (by omega) (by simp) (by decide), rd_nil _⟩, (List.forall_mem_cons.2 ⟨⟨pd_ok _ _ [] (by omega) (by omega) (by omega) (by omega) (by simp) (by decide), rd_nil _⟩, (List.forall_mem_cons.2 ⟨⟨xd_ok _ _ _ (by omega) (by omega) HZ0.out HZ1.out HU.out, xd_rd (HBB.out.qt ((QX.out.trans QM.out).drew))⟩, (fun x hx => by cases hx)⟩)⟩)⟩)⟩) (by simp) (by simp) ?_
              intro wp6 g6 q6 hp6
              have HP6 := Lib.hid hp6
              clear hp6
              refine ⟨rangeQt HS.out q6, genT fun F7 hF => ?_⟩
              have HS := Lib.hid (rangeQt HS.out q6)
              replace hF : F7 = F6.put (some 60) (.slice (some ⟨g6, 0, none⟩) 4 4) := hF
              have z7 : F7.tmps.size = 122 := by rw [hF]; simpa [Act.put] using z6
              have e4_7 := (show F7.eval (.tmp 4) = F6.eval (.tmp 4) by rw [hF]; exact evO (by decide)).trans e4_6
              have e6_7 := (show F7.eval (.tmp 6) = F6.eval (.tmp 6) by rw [hF]; exact evO (by decide)).trans e6_6
              have e54_7 := (show F7.eval (.tmp 54) = F6.eval (.tmp 54) by rw [hF]; exact evO (by decide)).trans e54_6
              have e60_7 : F7.eval (.tmp 60) = .slice (some ⟨g6, 0, none⟩) 4 4 := by rw [hF]; exact evS (by rw [z6]; decide)
              have HF7 := Lib.hid hF
              clear hF e4_6 e6_6 e54_6 e55_6 e57_6 e58_6 e59_6
              refine aloneT (i := 7) (oi := _) rfl (by kernel_rfl) (wantedT rfl) ?_
              refine wpCall (clT (f := 5) (args := #[.slice (some ⟨wn.heap.size, 0, none⟩) n 9, .slice (some ⟨g6, 0, none⟩) 4 4]) rfl (by simp only [List.map_toArray, List.map_cons, List.map_nil, e54_7, e60_7] <;> rfl) (fun args w => by kernel_rfl)) (fun v w' => v = .bool true ∧ Qt wp6 w') ((wireReads_any (.slice (some ⟨wn.heap.size, 0, none⟩) n 9) _ bl [(xd k z U, .slice (some ⟨gb, 0, none⟩) 2 2), (pd k 2 [], .slice none 0 0), (pd 0 0 [], .slice none 0 0), (xd k z U, .slice (some ⟨gb, 0, none⟩) 2 2)] wp6 (HSL.out.qt ((Qt.refl wm).drew.trans q6)) H8.out HP6.out).mono (by rintro e w' ⟨rfl, q⟩; exact ⟨_, rfl, rfl, q⟩)) ?_
              rintro v w10 ⟨rfl, qw10⟩
              refine ⟨rangeQt HS.out qw10, genT fun F8 hF => ?_⟩
              have HS := Lib.hid (rangeQt HS.out qw10)
              replace hF : F8 = F7.put (some 61) (.bool true) := hF
              have z8 : F8.tmps.size = 122 := by rw [hF]; simpa [Act.put] using z7
              have e4_8 := (show F8.eval (.tmp 4) = F7.eval (.tmp 4) by rw [hF]; exact evO (by decide)).trans e4_7
              have e6_8 := (show F8.eval (.tmp 6) = F7.eval (.tmp 6) by rw [hF]; exact evO (by decide)).trans e6_7
              have e61_8 : F8.eval (.tmp 61) = .bool true := by rw [hF]; exact evS (by rw [z7]; decide)
              have HF8 := Lib.hid hF
              clear hF e4_7 e6_7 e54_7 e60_7
              refine tkT (i := 8) (oi := _) (v := .bool false) rfl (by kernel_rfl) (by kernel_rfl) (by kernel_rfl) (fun _ _ _ h => h) HS.out (wantedT rfl) (fun w hs => noT rfl e61_8) ?_
              intro F9 hF
              replace hF : F9 = F8.put (some 62) (.bool false) := hF
              have z9 : F9.tmps.size = 122 := by rw [hF]; simpa [Act.put] using z8
              have e4_9 := (show F9.eval (.tmp 4) = F8.eval (.tmp 4) by rw [hF]; exact evO (by decide)).trans e4_8
              have e6_9 := (show F9.eval (.tmp 6) = F8.eval (.tmp 6) by rw [hF]; exact evO (by decide)).trans e6_8
              have e62_9 : F9.eval (.tmp 62) = .bool false := by rw [hF]; exact evS (by rw [z8]; decide)
              have HF9 := Lib.hid hF
              clear hF e4_8 e6_8 e61_8
              refine tkT (i := 9) (oi := _) (v := .bool false) rfl (by kernel_rfl) (by kernel_rfl) (by kernel_rfl) (fun _ _ _ h => h) HS.out (wantedT rfl) (fun w _ => mvT rfl e62_9 w) ?_
              intro F10 hF
              replace hF : F10 = F9.put (some 63) (.bool false) := hF
              have z10 : F10.tmps.size = 122 := by rw [hF]; simpa [Act.put] using z9
              have e4_10 := (show F10.eval (.tmp 4) = F9.eval (.tmp 4) by rw [hF]; exact evO (by decide)).trans e4_9
              have e6_10 := (show F10.eval (.tmp 6) = F9.eval (.tmp 6) by rw [hF]; exact evO (by decide)).trans e6_9
              have e63_10 : F10.eval (.tmp 63) = .bool false := by rw [hF]; exact evS (by rw [z9]; decide)
              have HF10 := Lib.hid hF
              clear hF e4_9 e6_9 e62_9
              refine tkT (i := 11) (oi := _) (v := .slice (some ⟨wn.heap.size, 0, none⟩) n 9) rfl (by kernel_rfl) (by kernel_rfl) (by kernel_rfl) (fun _ _ _ h => h) HS.out (by rw [wantedG (d := 63) rfl rfl e63_10 (by rw [z10]; decide)]; rfl) (fun w _ => mvT rfl e6_10 w) ?_
              intro F11 hF
              replace hF : F11 = F10.put (some 65) (.slice (some ⟨wn.heap.size, 0, none⟩) n 9) := hF
              have z11 : F11.tmps.size = 122 := by rw [hF]; simpa [Act.put] using z10
              have e4_11 := (show F11.eval (.tmp 4) = F10.eval (.tmp 4) by rw [hF]; exact evO (by decide)).trans e4_10
              have e63_11 := (show F11.eval (.tmp 63) = F10.eval (.tmp 63) by rw [hF]; exact evO (by decide)).trans e63_10
              have e65_11 : F11.eval (.tmp 65) = .slice (some ⟨wn.heap.size, 0, none⟩) n 9 := by rw [hF]; exact evS (by rw [z10]; decide)
              have HF11 := Lib.hid hF
              clear hF e4_10 e6_10 e63_10
              refine tkT (i := 13) (oi := _) (v := .agg (putC (xd k z U) (.slice (some ⟨gb, 0, none⟩) 2 2)).toArray) rfl (by kernel_rfl) (by kernel_rfl) (by kernel_rfl) (fun _ _ _ h => h) HS.out (by rw [wantedG (d := 63) rfl rfl e63_11 (by rw [z11]; decide)]; rfl) (fun w hs => lrT rfl e4_11 hs (d := .struct ps) HPS.out rfl (by rw [putC_lenU _ _ rfl]; kernel_rfl)) ?_
              intro F12 hF
              replace hF : F12 = F11.put (some 67) (.agg (putC (xd k z U) (.slice (some ⟨gb, 0, none⟩) 2 2)).toArray) := hF
              have z12 : F12.tmps.size = 122 := by rw [hF]; simpa [Act.put] using z11
              have e4_12 := (show F12.eval (.tmp 4) = F11.eval (.tmp 4) by rw [hF]; exact evO (by decide)).trans e4_11
              have e63_12 := (show F12.eval (.tmp 63) = F11.eval (.tmp 63) by rw [hF]; exact evO (by decide)).trans e63_11
              have e65_12 := (show F12.eval (.tmp 65) = F11.eval (.tmp 65) by rw [hF]; exact evO (by decide)).trans e65_11
              have e67_12 : F12.eval (.tmp 67) = .agg (putC (xd k z U) (.slice (some ⟨gb, 0, none⟩) 2 2)).toArray := by rw [hF]; exact evS (by rw [z11]; decide)
              have HF12 := Lib.hid hF
              clear hF e4_11 e63_11 e65_11
              refine tkT (i := 14) (oi := _) (v := .agg (putC (xd k z U) (.slice (some ⟨gb, 0, none⟩) 2 2)).toArray) rfl (by kernel_rfl) (by kernel_rfl) (by kernel_rfl) (fun _ _ _ h => h) HS.out (by rw [wantedG (d := 63) rfl rfl e63_12 (by rw [z12]; decide)]; rfl) (fun w hs => lrT rfl e4_12 hs (d := .struct ps) HPS.out rfl (by rw [putC_lenU _ _ rfl]; kernel_rfl)) ?_
              intro F13 hF
              replace hF : F13 = F12.put (some 68) (.agg (putC (xd k z U) (.slice (some ⟨gb, 0, none⟩) 2 2)).toArray) := hF
              have z13 : F13.tmps.size = 122 := by rw [hF]; simpa [Act.put] using z12
              have e63_13 := (show F13.eval (.tmp 63) = F12.eval (.tmp 63) by rw [hF]; exact evO (by decide)).trans e63_12
              have e65_13 := (show F13.eval (.tmp 65) = F12.eval (.tmp 65) by rw [hF]; exact evO (by decide)).trans e65_12
              have e67_13 := (show F13.eval (.tmp 67) = F12.eval (.tmp 67) by rw [hF]; exact evO (by decide)).trans e67_12
              have e68_13 : F13.eval (.tmp 68) = .agg (putC (xd k z U) (.slice (some ⟨gb, 0, none⟩) 2 2)).toArray := by rw [hF]; exact evS (by rw [z12]; decide)
              have HF13 := Lib.hid hF
              clear hF e4_12 e63_12 e65_12 e67_12
              refine wpAnyH_free [10, 12, 15] [] (fun i => if i = 12 then [10] else []) (fun i => [0, 0, 0, 0, 0, 0, 0, 0, 0, 0, 64, 0, 66, 0, 0, 69, 0, 0, 0].getD i 0) (RB bl [(xd k z U, .slice (some ⟨gb, 0, none⟩) 2 2), (xd k z U, .slice (some ⟨gb, 0, none⟩) 2 2)]) [#[true, true, true, true, true, true, true, true, true, true, false, true, false, true, true, false, false, false, false], #[true, true, true, true, true, true, true, true, true, true, true, true, false, true, true, false, false, false, false], #[true, true, true, true, true, true, true, true, true, true, false, true, false, true, true, true, false, false, false], #[true, true, true, true, true, true, true, true, true, true, true, true, true, true, true, false, false, false, false], #[true, true, true, true, true, true, true, true, true, true, true, true, false, true, true, true, false, false, false], #[true, true, true, true, true, true, true, true, true, true, true, true, true, true, true, true, false, false, false]] (fun l => (l.toList.filter (fun b => !b)).length - 3) F13 _ 3 RB.qt (fun w' q => rangeQt HS.out q) (by rw [z13]; decide) (by decide) (by decide) (by decide +kernel) (by decide +kernel) ?_ (by decide +kernel) ?_ 3 _ (by decide +kernel) (by decide +kernel) (by decide +kernel)
              · intro j hj a' wq K' q hsz hfr hpre hK
                have QQ := Lib.hid ((((Qt.refl wm).drew.trans q6).trans qw10).trans q)
                simp only [List.mem_cons, List.not_mem_nil, or_false] at hj
                rcases hj with rfl | rfl | rfl
                · refine manyT (i := 10) (oi := _) rfl (by rw [wantedG (d := 63) rfl rfl ((hfr 63 (by decide)).trans e63_13) (by rw [hsz, z13]; decide)]; rfl) ?_
                  refine wpRun (v := .slice (some ⟨wq.heap.size, 0, none⟩) 2 2) (w' := wq.alloc (.cells (u8s [0, 2]).toArray 5)) (bsT rfl (vals := #[(0, .int .u8 0), (1, .int .u8 2)]) (by simp only [List.map_toArray, List.map_cons, List.map_nil] <;> rfl) (by go_simp; try rfl)) ?_
                  exact hK _ _ ((Qt.refl _).alloc _) ⟨_, rfl, heap_alloc_new wq _⟩ (fun h => absurd h (by decide))
                · refine manyT (i := 12) (oi := _) rfl (by rw [wantedG (d := 63) rfl rfl ((hfr 63 (by decide)).trans e63_13) (by rw [hsz, z13]; decide)]; rfl) ?_
                  obtain ⟨g, hg, tg⟩ := (show RB bl [(xd k z U, .slice (some ⟨gb, 0, none⟩) 2 2), (xd k z U, .slice (some ⟨gb, 0, none⟩) 2 2)] 10 (a'.eval (.tmp 64)) wq from hpre 10 (by decide))
                  obtain ⟨v', w', hr, hs', hq'⟩ := app_two wq g 0 2 bl (.slice (some ⟨wn.heap.size, 0, none⟩) n 9) 26 tg (HSL.out.qt QQ.out) (by rw [HBL.out]; omega)
                  refine wpRun (v := v') (w' := w') (by simp [execOp, resolve, invoke, builtin, hg, (hfr 65 (by decide)).trans e65_13, hr, Result.andThen]) ?_
                  exact hK _ _ hq' hs' (fun h => absurd h (by decide))
                · refine manyT (i := 15) (oi := _) rfl (by rw [wantedG (d := 63) rfl rfl ((hfr 63 (by decide)).trans e63_13) (by rw [hsz, z13]; decide)]; rfl) ?_
                  refine wpPuts [(xd k z U, .slice (some ⟨gb, 0, none⟩) 2 2), (xd k z U, .slice (some ⟨gb, 0, none⟩) 2 2)] rfl (by simp only [List.map_toArray, List.map_cons, List.map_nil, (hfr 67 (by decide)).trans e67_13, (hfr 68 (by decide)).trans e68_13]; rfl) (List.forall_mem_cons.2 ⟨⟨xd_ok _ _ _ (by omega) (by omega) HZ0.out HZ1.out HU.out, xd_rd (HBB.out.qt ((QX.out.trans QM.out).trans QQ.out))⟩, (List.forall_mem_cons.2 ⟨⟨xd_ok _ _ _ (by omega) (by omega) HZ0.out HZ1.out HU.out, xd_rd (HBB.out.qt ((QX.out.trans QM.out).trans QQ.out))⟩, (fun x hx => by cases hx)⟩)⟩) (by simp) (by simp) ?_
                  intro w' g q' hp'
                  exact hK _ _ q' hp' (fun h => absurd h (by decide))
              intro listed hL hl0 a' wq hsz hdf hfr q hr hne
              have hl : ∀ l ∈ ([#[true, true, true, true, true, true, true, true, true, true, false, true, false, true, true, false, false, false, false], #[true, true, true, true, true, true, true, true, true, true, true, true, false, true, true, false, false, false, false], #[true, true, true, true, true, true, true, true, true, true, false, true, false, true, true, true, false, false, false], #[true, true, true, true, true, true, true, true, true, true, true, true, true, true, true, false, false, false, false], #[true, true, true, true, true, true, true, true, true, true, true, true, false, true, true, true, false, false, false], #[true, true, true, true, true, true, true, true, true, true, true, true, true, true, true, true, false, false, false]] : List (Array Bool)), (l.toList.filter (fun b => !b)).length - 3 = 0 → l = #[true, true, true, true, true, true, true, true, true, true, true, true, true, true, true, true, false, false, false] := by decide +kernel
              obtain rfl := hl listed hL hl0
              clear hL hl0 hl hne
              have h66 := (show Sl wq (a'.eval (.tmp 66)) (0 :: 2 :: bl) from hr 12 (by decide))
              have h69 := (show Puts wq (a'.eval (.tmp 69)) [(xd k z U, .slice (some ⟨gb, 0, none⟩) 2 2), (xd k z U, .slice (some ⟨gb, 0, none⟩) 2 2)] from hr 15 (by decide))
              obtain ⟨v64, e64⟩ : ∃ v, a'.eval (.tmp 64) = v := ⟨_, rfl⟩
              obtain ⟨v66, e66⟩ : ∃ v, a'.eval (.tmp 66) = v := ⟨_, rfl⟩
              obtain ⟨v69, e69⟩ : ∃ v, a'.eval (.tmp 69) = v := ⟨_, rfl⟩
              rw [e66] at h66
              rw [e69] at h69
              have hE : a' = ((F13.put (some 64) v64).put (some 66) v66).put (some 69) v69 := by
                refine act_ext (by simpa [Act.put] using hsz) (by simpa [Act.put] using hdf) (fun s => ?_)
                by_cases s69 : s = 69
                · subst s69; rw [evS (by simp [Act.put, z13])]; exact e69
                rw [evO (fun e => s69 e.symm)]
                by_cases s66 : s = 66
                · subst s66; rw [evS (by simp [Act.put, z13])]; exact e66
                rw [evO (fun e => s66 e.symm)]
                by_cases s64 : s = 64
                · subst s64; rw [evS (by simp [Act.put, z13])]; exact e64
                rw [evO (fun e => s64 e.symm)]
                refine hfr s (fun i hi => ?_)
                simp only [List.mem_cons, List.not_mem_nil, or_false] at hi
                rcases hi with rfl | rfl | rfl
                · exact fun e => s64 e.symm
                · exact fun e => s66 e.symm
                · exact fun e => s69 e.symm
              have e63q := (hfr 63 (by decide)).trans e63_13
              have zq : a'.tmps.size = 122 := hsz.trans z13
              refine genT fun F16 hF => ?_
              have e63_16 : F16.eval (.tmp 63) = .bool false := by rw [hF]; exact e63q
              have e66_16 : F16.eval (.tmp 66) = v66 := by rw [hF]; exact e66
              have e69_16 : F16.eval (.tmp 69) = v69 := by rw [hF]; exact e69
              have z16 : F16.tmps.size = 122 := by rw [hF]; exact zq
              have HF16 := Lib.hid (hF.trans hE)
              have HS := Lib.hid (rangeQt HS.out q)
              clear hF hE hsz hdf hfr hr e64 e66 e69 e63q zq
              refine aloneT (i := 16) (oi := _) rfl (by kernel_rfl) (by rw [wantedG (d := 63) rfl rfl e63_16 (by rw [z16]; decide)]; rfl) ?_
              refine wpCall (clT (f := 5) (args := #[v66, v69]) rfl (by simp only [List.map_toArray, List.map_cons, List.map_nil, e66_16, e69_16] <;> rfl) (fun args w => by kernel_rfl)) (fun v w' => v = .bool true ∧ Qt wq w') ((wireReads_any v66 v69 (0 :: 2 :: bl) [(xd k z U, .slice (some ⟨gb, 0, none⟩) 2 2), (xd k z U, .slice (some ⟨gb, 0, none⟩) 2 2)] wq h66 (List.forall_mem_cons.2 ⟨by decide, List.forall_mem_cons.2 ⟨by decide, H8.out⟩⟩) h69).mono (by rintro e w' ⟨rfl, q⟩; exact ⟨_, rfl, rfl, q⟩)) ?_
              rintro v w12 ⟨rfl, q12⟩
              refine ⟨rangeQt HS.out q12, genT fun F17 hF => ?_⟩
              have HS := Lib.hid (rangeQt HS.out q12)
              replace hF : F17 = F16.put (some 70) (.bool true) := hF
              have z17 : F17.tmps.size = 122 := by rw [hF]; simpa [Act.put] using z16
              have e63_17 := (show F17.eval (.tmp 63) = F16.eval (.tmp 63) by rw [hF]; exact evO (by decide)).trans e63_16
              have e70_17 : F17.eval (.tmp 70) = .bool true := by rw [hF]; exact evS (by rw [z16]; decide)
              have HF17 := Lib.hid hF
              clear hF e63_16 e66_16 e69_16
              refine tkT (i := 17) (oi := _) (v := .bool false) rfl (by kernel_rfl) (by kernel_rfl) (by kernel_rfl) (fun _ _ _ h => h) HS.out (by rw [wantedG (d := 63) rfl rfl e63_17 (by rw [z17]; decide)]; rfl) (fun w hs => noT rfl e70_17) ?_
              intro F18 hF
              replace hF : F18 = F17.put (some 71) (.bool false) := hF
              have z18 : F18.tmps.size = 122 := by rw [hF]; simpa [Act.put] using z17
              have e63_18 := (show F18.eval (.tmp 63) = F17.eval (.tmp 63) by rw [hF]; exact evO (by decide)).trans e63_17
              have e71_18 : F18.eval (.tmp 71) = .bool false := by rw [hF]; exact evS (by rw [z17]; decide)
              have HF18 := Lib.hid hF
              clear hF e63_17 e70_17
              refine tkT (i := 18) (oi := _) (v := .bool false) rfl (by kernel_rfl) (by kernel_rfl) (by kernel_rfl) (fun _ _ _ h => h) HS.out (wantedT rfl) (fun w hs => pkT (vx := .bool true) rfl e63_18 rfl e71_18 w) ?_
              intro F19 hF
              replace hF : F19 = F18.put (some 72) (.bool false) := hF
              have z19 : F19.tmps.size = 122 := by rw [hF]; simpa [Act.put] using z18
              have HF19 := Lib.hid hF
              clear hF e63_18 e71_18
              refine wpAnyH_done (by kernel_rfl) ?_ _
              rw [HF19.out, HF18.out, HF17.out, HF16.out, HF13.out, HF12.out, HF11.out, HF10.out, HF9.out, HF8.out, HF7.out, HF6.out, HF5.out, HF4.out, HF3.out, HF2.out, HF1.out, HA.out]
              simp only [Act.put, List.setIfInBounds_toArray, List.set_cons_succ, List.set_cons_zero]
              clear HF19 HF18 HF17 HF16 HF13 HF12 HF11 HF10 HF9 HF8 HF7 HF6 HF5 HF4 HF3 HF2 HF1 HA z19 z18 z17 z16 z13 z12 z11 z10 z9 z8 z7 z6 z5 z4 z3 z2 z1 z0 
              go_wp2_with fail
              go_roundw
              case rel => exact ⟨n + 1, by omega, by go_num, HQN.out.trans (QM.out.trans (((((Qt.refl wm).drew.trans q6).trans qw10).trans q).trans q12))⟩
              case measure => simp [intOf]; omega
            · obtain rfl : n = 10 := by omega
              go_wp2_with fail
              go_roundw
              case rel => exact ⟨k + 1, by omega, by go_num, (HQK.out.trans HQ8.out).trans QX.out⟩
              case measure => simp [intOf]; omega
        · obtain rfl : k = 10 := by omega
          go_wp2_with fail
          go_roundw
          case rel => exact ⟨i + 1, by omega, by go_num, HB1.out, HQ.out.trans HQK.out⟩
          case measure => simp [intOf]; omega
    · obtain rfl : i = 13 := by omega
      have HQ := Lib.hid hq
      clear hq hb1
      go_wp2_with fail
      have e13 : ((13 : Nat) : Int) = 13 := rfl
      have hd13 : decide ((13 : Int) < 13) = false := by decide
      simp only [e13, hd13]
      clear e13 hd13
      go_loopw [7] (fun i v => ∃ m : Nat, m ≤ 256 ∧ i = .int .i64 m ∧ Qt W v) (fun i _ => 256 - (intOf i).toNat)
      case atStart => exact ⟨0, by omega, rfl, HQ.out⟩
      case round =>
        rename World => wc
        obtain ⟨c, hc, rfl, hq⟩ := hrel
        have QX := Lib.hid hq
        clear hq HQ
        by_cases hlt2 : c < 256
        · have i1 : (c : Int) < 256 := by omega
          have i2 : IntKind.u8.wrap (c : Int) = (c : Int) := by show (c : Int) % 256 = c; omega
          go_wp2_with (first
            | (refine armSkip rfl rfl rfl rfl ?_)
            | (refine armU8 [c, 1, 2] (by first | exact wantedT rfl | exact (wantedB rfl rfl rfl).trans rfl) _ rfl _ rfl (fun w => by go_simp; try rfl) (by simp) ?_; intro w' g' q' hs'; (have HS1 := Lib.hid hs'); (have QX := Lib.hid (QX.out.trans q')); clear q' hs')
            | (refine armPuts [(pd 8 0 [], .slice none 0 0), (pd 8 0 [], .slice none 0 0)] (by first | exact wantedT rfl | exact (wantedB rfl rfl rfl).trans rfl) _ rfl (by simp only [List.map_toArray, List.map_cons, List.map_nil]; rfl) (List.forall_mem_cons.2 ⟨⟨pd_ok _ _ [] (by omega) (by omega) (by omega) (by omega) (by simp) (by decide), rd_nil _⟩, (List.forall_mem_cons.2 ⟨⟨pd_ok _ _ [] (by omega) (by omega) (by omega) (by omega) (by simp) (by decide), rd_nil _⟩, (fun x hx => by cases hx)⟩)⟩) (by simp) (by simp) ?_; intro w' g' q' hp'; (have HP1 := Lib.hid hp'); (have QX := Lib.hid (QX.out.trans q')); (have HS1 := Lib.hid (HS1.out.qt q')); clear q' hp'))
          refine (wireReads_any _ _ [c, 1, 2] [(pd 8 0 [], .slice none 0 0), (pd 8 0 [], .slice none 0 0)] _ HS1.out (List.forall_mem_cons.2 ⟨hlt2, by decide⟩) HP1.out).mono ?_
          rintro e w' ⟨rfl, q'⟩
          have QX := Lib.hid (QX.out.trans q')
          clear q'
          go_wp2_with (first
            | (refine armSkip rfl rfl rfl rfl ?_)
            | (refine armU8 [0, c, 1, 2] (by first | exact wantedT rfl | exact (wantedB rfl rfl rfl).trans rfl) _ rfl _ rfl (fun w => by go_simp; try rfl) (by simp) ?_; intro w' g' q' hs'; (have HS2 := Lib.hid hs'); (have QX := Lib.hid (QX.out.trans q')); clear q' hs')
            | (refine armPuts [(pd 9 9 [], .slice none 0 0), (pd 0 0 [], .slice none 0 0)] (by first | exact wantedT rfl | exact (wantedB rfl rfl rfl).trans rfl) _ rfl (by simp only [List.map_toArray, List.map_cons, List.map_nil]; rfl) (List.forall_mem_cons.2 ⟨⟨pd_ok _ _ [] (by omega) (by omega) (by omega) (by omega) (by simp) (by decide), rd_nil _⟩, (List.forall_mem_cons.2 ⟨⟨pd_ok _ _ [] (by omega) (by omega) (by omega) (by omega) (by simp) (by decide), rd_nil _⟩, (fun x hx => by cases hx)⟩)⟩) (by simp) (by simp) ?_; intro w' g' q' hp'; (have HP2 := Lib.hid hp'); (have QX := Lib.hid (QX.out.trans q')); (have HS2 := Lib.hid (HS2.out.qt q')); clear q' hp'))
          refine (wireReads_any _ _ [0, c, 1, 2] [(pd 9 9 [], .slice none 0 0), (pd 0 0 [], .slice none 0 0)] _ HS2.out (List.forall_mem_cons.2 ⟨by decide, List.forall_mem_cons.2 ⟨hlt2, by decide⟩⟩) HP2.out).mono ?_
          rintro e w' ⟨rfl, q'⟩
          have QX := Lib.hid (QX.out.trans q')
          clear q'
          go_wp2_with (first
            | (refine armSkip rfl rfl rfl rfl ?_)
            | (refine armU8 [0, c, 1, 2] (by first | exact wantedT rfl | exact (wantedB rfl rfl rfl).trans rfl) _ rfl _ rfl (fun w => by go_simp; try rfl) (by simp) ?_; intro w' g' q' hs'; (have HS3 := Lib.hid hs'); (have QX := Lib.hid (QX.out.trans q')); clear q' hs')
            | (refine armPuts [(pd 7 2 [], .slice none 0 0), (pd 0 0 [], .slice none 0 0)] (by first | exact wantedT rfl | exact (wantedB rfl rfl rfl).trans rfl) _ rfl (by simp only [List.map_toArray, List.map_cons, List.map_nil]; rfl) (List.forall_mem_cons.2 ⟨⟨pd_ok _ _ [] (by omega) (by omega) (by omega) (by omega) (by simp) (by decide), rd_nil _⟩, (List.forall_mem_cons.2 ⟨⟨pd_ok _ _ [] (by omega) (by omega) (by omega) (by omega) (by simp) (by decide), rd_nil _⟩, (fun x hx => by cases hx)⟩)⟩) (by simp) (by simp) ?_; intro w' g' q' hp'; (have HP3 := Lib.hid hp'); (have QX := Lib.hid (QX.out.trans q')); (have HS3 := Lib.hid (HS3.out.qt q')); clear q' hp'))
          refine (wireReads_any _ _ [0, c, 1, 2] [(pd 7 2 [], .slice none 0 0), (pd 0 0 [], .slice none 0 0)] _ HS3.out (List.forall_mem_cons.2 ⟨by decide, List.forall_mem_cons.2 ⟨hlt2, by decide⟩⟩) HP3.out).mono ?_
          rintro e w' ⟨rfl, q'⟩
          have QX := Lib.hid (QX.out.trans q')
          clear q'
          go_wp2_with fail
          go_roundw
          case rel => exact ⟨c + 1, by omega, by go_num, QX.out⟩
          case measure => simp [intOf]; omega
        · obtain rfl : c = 256 := by omega
          obtain ⟨N, hN⟩ : ∃ N : Nat, N = 65536 := ⟨_, rfl⟩
          have HN := Lib.hid hN
          have hN1 : 2 ≤ N := by omega
          have hN2 : N ≤ 1000000 := by omega
          have HN1 := Lib.hid hN1
          have HN2 := Lib.hid hN2
          clear hN hN1 hN2
          go_wp2_with (first
            | (refine armSkip rfl rfl rfl rfl ?_)
            | (refine armMk N HN1.out HN2.out rfl (.const (.int .i64 65536)) (.const (.int .i64 65536)) rfl (by rw [HN.out]; rfl) (by rw [HN.out]; rfl) ?_; intro wl gl L ql hL h8 hs1 hs2; (have HL := Lib.hid hL); (have H8 := Lib.hid h8); (have HS1 := Lib.hid hs1); (have HS2 := Lib.hid hs2); (have QX := Lib.hid (QX.out.trans ql)); (have QL := Lib.hid (Qt.refl wl)); clear ql hL h8 hs1 hs2)
            | (refine armVal (.string (str (L))) (cvT (x := .tmp 106) rfl rfl (conv_str 26 5 (by kernel_rfl) (by kernel_rfl) (HS1.out.qt QL.out).rd rfl _ (by kernel_rfl))) (by first | exact wantedT rfl | exact (wantedB rfl rfl rfl).trans rfl) ?_)
            | (refine armVal (.agg (putC (pd 7 0 (L)) (.slice none 0 0)).toArray) (bdT (parts := #[(0, .const (.int .i64 7)), (5, .tmp 107)]) rfl (vals := #[(0, .int .i64 7), (5, .string (str (L)))]) (by simp only [List.map_toArray, List.map_cons, List.map_nil]; rfl) (by kernel_rfl) _) (by first | exact wantedT rfl | exact (wantedB rfl rfl rfl).trans rfl) ?_)
            | (refine armPuts [(pd 7 0 (L), .slice none 0 0)] (by first | exact wantedT rfl | exact (wantedB rfl rfl rfl).trans rfl) _ rfl (by simp only [List.map_toArray, List.map_cons, List.map_nil]; rfl) (List.forall_mem_cons.2 ⟨⟨pd_ok _ _ _ (by omega) (by omega) (by omega) (by omega) H8.out (by rw [HL.out]; have := HN2.out; omega), rd_nil _⟩, (fun x hx => by cases hx)⟩) (by simp) (by simp) ?_; intro w' g' q' hp'; (have HP1 := Lib.hid hp'); (have QX := Lib.hid (QX.out.trans q')); (have QL := Lib.hid (QL.out.trans q')); clear q' hp'))
          refine (wireWrites_any _ [(pd 7 0 (L), .slice none 0 0)] _ HP1.out).mono ?_
          rintro e w' ⟨rfl, q'⟩
          have QX := Lib.hid (QX.out.trans q')
          have QL := Lib.hid (QL.out.trans q')
          clear q'
          go_wp2_with (first
            | (refine armSkip rfl rfl rfl rfl ?_)
            | (refine armVal (.slice (some ⟨gl, 1, none⟩) (N - 1) (N - 1)) ((slT (x := .tmp 112) (y := .const (.int .i64 1)) (i := 1) rfl rfl rfl (by kernel_rfl) szU8 (by decide) (by have := HN1.out; omega) _).trans (by rw [tail_val gl N HN1.out])) (by first | exact wantedT rfl | exact (wantedB rfl rfl rfl).trans rfl) ?_)
            | (refine armVal (.string (str (L.drop 1))) (cvT (x := .tmp 113) rfl rfl (conv_str 26 5 (by kernel_rfl) (by kernel_rfl) (HS2.out.qt QL.out).rd rfl _ (by kernel_rfl))) (by first | exact wantedT rfl | exact (wantedB rfl rfl rfl).trans rfl) ?_)
            | (refine armVal (.agg (putC (pd 7 0 (L.drop 1)) (.slice none 0 0)).toArray) (bdT (parts := #[(0, .const (.int .i64 7)), (5, .tmp 114)]) rfl (vals := #[(0, .int .i64 7), (5, .string (str (L.drop 1)))]) (by simp only [List.map_toArray, List.map_cons, List.map_nil]; rfl) (by kernel_rfl) _) (by first | exact wantedT rfl | exact (wantedB rfl rfl rfl).trans rfl) ?_)
            | (refine armPuts [(pd 7 0 (L.drop 1), .slice none 0 0)] (by first | exact wantedT rfl | exact (wantedB rfl rfl rfl).trans rfl) _ rfl (by simp only [List.map_toArray, List.map_cons, List.map_nil]; rfl) (List.forall_mem_cons.2 ⟨⟨pd_ok _ _ _ (by omega) (by omega) (by omega) (by omega) (fun x hx => H8.out x (List.mem_of_mem_drop hx)) (by rw [List.length_drop, HL.out]; have := HN2.out; omega), rd_nil _⟩, (fun x hx => by cases hx)⟩) (by simp) (by simp) ?_; intro w' g' q' hp'; (have HP2 := Lib.hid hp'); (have QX := Lib.hid (QX.out.trans q')); (have QL := Lib.hid (QL.out.trans q')); clear q' hp'))
          refine (wireWrites_any _ [(pd 7 0 (L.drop 1), .slice none 0 0)] _ HP2.out).mono ?_
          rintro e w' ⟨rfl, q'⟩
          have QX := Lib.hid (QX.out.trans q')
          have QL := Lib.hid (QL.out.trans q')
          clear q'
          go_wp2_with fail
          refine (awake_any _).mono ?_
          rintro e w' ⟨rfl, q'⟩
          have QX := Lib.hid (QX.out.trans q')
          have QL := Lib.hid (QL.out.trans q')
          clear q'
          go_wp2_with fail
          go_ret
          exact ⟨rfl, QX.out⟩
end Go.Proofs.YtajkmblcphdnbaaGreat
