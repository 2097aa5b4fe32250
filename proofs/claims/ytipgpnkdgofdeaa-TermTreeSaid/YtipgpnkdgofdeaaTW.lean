import Derived.Test.YtipgpnkdgofdeaaTA
import Derived.Laws.Rows
import Derived.Deep.MidRow
import Derived.OrdersHeld
/-! Blocks of structs; steps of a region that draws its order; rows as arms of a walk. -/
namespace Go.Proofs.Ytipgpnkdgofdeaa.Tm
open Go.RowKit
set_option linter.unusedVariables false
set_option linter.unusedSimpArgs false

/-- Nothing that was there has turned, but block a. -/
def Og (a : Nat) (w w' : World) : Prop := w.grownBy w' (some a)
theorem Og.refl (a : Nat) (w : World) : Og a w w := ⟨rfl, rfl, rfl, Nat.le_refl _, fun _ _ _ => rfl⟩
theorem Og.trans {a : Nat} {x y z : World} (h : Og a x y) (k : Og a y z) : Og a x z :=
  ⟨k.os.trans h.os, k.tape.trans h.tape, k.output.trans h.output, Nat.le_trans h.size k.size, fun i hi hn => (k.block i (Nat.lt_of_lt_of_le hi h.size) hn).trans (h.block i hi hn)⟩
theorem qtOg {a : Nat} {w w' : World} (h : Qt w w') : Og a w w' := ⟨h.os, h.tape, h.output, h.size, fun k hk _ => h.block k hk⟩
theorem Og.setCell {a : Nat} {w w' : World} (h : Og a w w') {p : Addr} (hp : p.block = a ∨ w.heap.size ≤ p.block) (u : Value) : Og a w (w'.setCell p u) :=
  ⟨h.os, h.tape, h.output, by have := h.size; simpa [World.setCell] using this, fun k hk hn => by
    rw [Below.heap_setCell _ _ _ _ (fun e => by
      rcases hp with hp | hp
      · exact hn (by rw [e, hp])
      · omega)]
    exact h.block k hk hn⟩
theorem Og.cell {a : Nat} {w w' : World} (h : Og a w w') {p : Addr} {v : Value} (hc : w.cell? p = some v) (hp : p.block ≠ a) : w'.cell? p = some v :=
  (World.cell?_of_block (w := w) (h.block p.block (blk_of_cell hc) (fun e => hp (by cases e; rfl)))).trans hc
/-- Only a block that was not there has turned. -/
theorem Og.qt {a : Nat} {w0 w w' : World} (h : Og a w w') (q : Qt w0 w) (ha : w0.heap.size ≤ a) : Qt w0 w' :=
  ⟨h.os.trans q.os, h.tape.trans q.tape, h.output.trans q.output, Nat.le_trans q.size h.size, fun k hk => (h.block k (Nat.lt_of_lt_of_le hk q.size) (fun e => by cases e; omega)).trans (q.block k hk)⟩

/-- A block's cells. -/
def Blk (w : World) (a : Nat) (t : TypeId) (c : List Value) : Prop := w.heap[a]? = some (.cells c.toArray t (0, 0))
theorem Blk.cell {w : World} {a : Nat} {t : TypeId} {c : List Value} (h : Blk w a t c) (i : Nat) : w.cell? ⟨a, i, none⟩ = c[i]? := by
  unfold Blk at h; simp [World.cell?, h]
theorem Blk.frozen {w : World} {a : Nat} {t : TypeId} {c : List Value} (h : Blk w a t c) (i : Nat) : w.frozen? ⟨a, i, none⟩ = false := by
  unfold Blk at h; simp [World.frozen?, h]
theorem Blk.lt {w : World} {a : Nat} {t : TypeId} {c : List Value} (h : Blk w a t c) : a < w.heap.size := by
  unfold Blk at h
  exact (Array.getElem?_eq_some_iff.1 h).1
theorem Blk.qt {w w' : World} {a : Nat} {t : TypeId} {c : List Value} (h : Blk w a t c) (q : Qt w w') : Blk w' a t c := by
  have := q.block a h.lt
  unfold Blk at *; rw [this, h]
theorem Blk.og {w w' : World} {a b : Nat} {t : TypeId} {c : List Value} (h : Blk w a t c) (q : Og b w w') (hne : a ≠ b) : Blk w' a t c := by
  have := q.block a h.lt (fun e => hne (by cases e; rfl))
  unfold Blk at *; rw [this, h]
theorem Blk.grown {w w' : World} {a : Nat} {t : TypeId} {c : List Value} {r : Option Nat} (h : Blk w a t c) (q : w.grownBy w' r) (hne : some a ≠ r) : Blk w' a t c := by
  have := q.block a h.lt hne
  unfold Blk at *; rw [this, h]
theorem Blk.set {w : World} {a : Nat} {t : TypeId} {c : List Value} (h : Blk w a t c) (i : Nat) (v : Value) : Blk (w.setCell ⟨a, i, none⟩ v) a t (c.set i v) := by
  unfold Blk at *; rw [heap_setCell_same _ _ _ _ _ _ h]; simp
theorem Blk.alloc {w : World} {a : Nat} {t : TypeId} {c : List Value} (h : Blk w a t c) (o : Obj) : Blk (w.alloc o) a t c := h.qt ((Qt.refl w).alloc o)
theorem Blk.far {w : World} {a : Nat} {t : TypeId} {c : List Value} (h : Blk w a t c) {p : Addr} (hp : a ≠ p.block) (v : Value) : Blk (w.setCell p v) a t c := by
  unfold Blk at *; rw [Below.heap_setCell _ _ _ _ hp, h]
theorem Blk.new (w : World) (t : TypeId) (c : Array Value) : Blk (w.alloc (.cells c t)) w.heap.size t c.toList := by
  exact heap_alloc_new w _
/-- So many cells from one on. -/
theorem Blk.range {w : World} {a : Nat} {t : TypeId} {c : List Value} (h : Blk w a t c) (o : Nat) (cs : List Value) (hcs : (c.drop o).take cs.length = cs) : w.rangeAt a o cs := by
  intro i u hu
  have hi : i < cs.length := (List.getElem?_eq_some_iff.1 hu).1
  have hu' : ((c.drop o).take cs.length)[i]? = some u := by rw [hcs]; exact hu
  rw [List.getElem?_take_of_lt hi, List.getElem?_drop] at hu'
  rw [h.cell]; exact hu'
theorem set_many (b : Nat) : ∀ (vs : List Value) (o : Nat) (w : World) (t : TypeId) (c : List Value), Blk w b t c → Blk (w.setCells b o vs) b t (c.take o ++ vs ++ c.drop (o + vs.length)) ∨ c.length < o + vs.length
  | [], o, w, t, c, h => by
    left
    simp only [World.setCells, List.append_nil, List.length_nil, Nat.add_zero, List.take_append_drop]
    exact h
  | v :: vs, o, w, t, c, h => by
    by_cases hl : c.length < o + (v :: vs).length
    · exact .inr hl
    · left
      rw [World.setCells]
      have h1 := (set_many b vs (o + 1) _ t _ (h.set o v)).resolve_right (by rw [List.length_set]; simp at hl; omega)
      refine Eq.mp (congrArg (Blk _ b t) ?_) h1
      have ho : o < c.length := by simp at hl; omega
      rw [List.set_eq_take_append_cons_drop, if_pos ho]
      have e1 : (List.take o c ++ v :: List.drop (o + 1) c).take (o + 1) = List.take o c ++ [v] := by
        rw [List.take_append, List.length_take, Nat.min_eq_left (by omega), List.take_of_length_le (by simp; omega), show o + 1 - o = 1 from by omega]; rfl
      have e2 : (List.take o c ++ v :: List.drop (o + 1) c).drop (o + 1 + vs.length) = List.drop (o + (v :: vs).length) c := by
        rw [List.drop_append, List.length_take, Nat.min_eq_left (by omega), List.drop_of_length_le (by simp; omega), List.nil_append, show o + 1 + vs.length - o = vs.length + 1 from by omega, List.drop_succ_cons, List.drop_drop]
        congr 1; simp; omega
      rw [e1, e2]; simp

section
variable {P : Program} {ops : Array Oper} {rest : List Oper} {o : Oper} {a : Act} {w : World} {Q : Exit → Act → World → Prop}
/-- A struct is loaded. -/
theorem armLd (hgd : o.guard = none) (ty : TypeId) (x : Operand) (ho : o.op = .load ty x) (g : Nat) (hx : a.eval x = .pointer (some ⟨g, 0, none⟩)) {t : TypeId} {cs : List Value} (hb : Blk w g t cs)
    (d : TypeDesc) (hu : P.underlying ty = some d) (hd : (match d with | .struct _ | .array _ _ => true | _ => false) = true) (hi : (P.info? ty).map (·.size) = some cs.length)
    (h : wpList P ops Q rest (a.put o.dst (.agg cs.toArray)) w) : wpList P ops Q (o :: rest) a w :=
  wpList_load_row hgd ty x ho g hx t cs.toArray (0, 0) d hb hu hd (by simpa using hi) h
/-- A struct is loaded out of a row. -/
theorem armLm (hgd : o.guard = none) (ty : TypeId) (x : Operand) (ho : o.op = .load ty x) (b off : Nat) (hx : a.eval x = .pointer (some ⟨b, off, none⟩)) {cs : List Value} (hc : w.rangeAt b off cs)
    (d : TypeDesc) (hu : P.underlying ty = some d) (hd : d.isRow = true) (hi : (P.info? ty).map (·.size) = some cs.length)
    (h : wpList P ops Q rest (a.put o.dst (.agg cs.toArray)) w) : wpList P ops Q (o :: rest) a w :=
  wpList_load_mid hgd ty x ho b off hx cs d hc hu hd hi h
/-- A struct is stored. -/
theorem armSt (hgd : o.guard = none) (ty : TypeId) (x y : Operand) (ho : o.op = .store ty x y) (g : Nat) (cells : List Value) (hx : a.eval x = .pointer (some ⟨g, 0, none⟩)) (hy : a.eval y = .agg cells.toArray)
    {t : TypeId} {old : List Value} (hb : Blk w g t old) (hi : (P.info? ty).map (·.size) = some cells.length) (hold : old.length = cells.length) (h1 : ∀ u ∈ cells, u.oneCell' = true)
    (h : ∀ w', Og g w w' → w.heap.size = w'.heap.size → Blk w' g t cells → wpList P ops Q rest (a.put o.dst undef) w') : wpList P ops Q (o :: rest) a w := by
  refine wpList_store_row hgd ty x y ho g cells.toArray hx hy t old.toArray hb (by simpa using hi) (by simpa using hold) (all_oneCell_toArray h1) ?_
  refine h _ ⟨rfl, rfl, rfl, by rw [setRow_size]; exact Nat.le_refl _, fun k _ hk => setRow_other w g k _ (fun e => hk (by rw [e]))⟩ (by rw [setRow_size]) ?_
  exact setRow_heap w g old.toArray cells.toArray t (0, 0) hb
end

/-! ### regions that draw their order -/
section
variable {P : Program} {md : Region.Mode} {ops : Array Oper} {Q : Exit → Act → World → Prop} {S : World → Prop} {o : Oper} {a : Act} {w : World}
theorem genT {fuel : Nat} {listed : Array Bool} (h : ∀ a0, a0 = a → wpAnyH P md ops Q S fuel listed a0 w) : wpAnyH P md ops Q S fuel listed a w := h a rfl
theorem wantedT (hg : o.guard = none) : Region.wanted o (yielded ops a.tmps) = true := by simp [Region.wanted, hg]
theorem wantedG {j d : Nat} {want b : Bool} (hg : o.guard = some (j, want)) (hd : (ops[j]?).bind (·.dst) = some d) (hv : a.eval (.tmp d) = .bool b) (hz : d < a.tmps.size) : Region.wanted o (yielded ops a.tmps) = (b == want) := by
  have e1 : a.tmps[d]? = some (.bool b) := by
    have h1 : a.tmps.getD d undef = .bool b := hv
    rw [Array.getElem?_eq_getElem hz]
    simp [Array.getD, hz] at h1
    rw [h1]
  unfold Region.wanted yielded
  rw [hg]
  simp only [hd, Option.bind_some, e1]
  cases b <;> cases want <;> rfl
theorem tkT {i : Nat} {oi : Oper} {v : Value} {fuel : Nat} {listed : Array Bool} (hi : ops[i]? = some oi)
    (hs : Region.noSelect ops = true) (hf : Region.free md ops listed i = true) (hr : (Region.ready md ops listed).contains i = true)
    (hQ : ∀ c a w, Q (.panic c) (a.put oi.dst v) w → Q (.panic c) a w) (hS : S w) (hw : Region.wanted oi (yielded ops a.tmps) = true) (hrun : ∀ w, S w → (execOp a.eval oi).run P w = .ok (.value v) w)
    (h : ∀ a', a' = a.put oi.dst v → wpAnyH P md ops Q S fuel (listed.setIfInBounds i true) a' w) : wpAnyH P md ops Q S (fuel + 1) listed a w :=
  wpAnyH_take hi hs hf hr hQ (.inl ⟨hw, hrun⟩) hS (h _ rfl)
theorem skT {i : Nat} {oi : Oper} {fuel : Nat} {listed : Array Bool} (hi : ops[i]? = some oi)
    (hs : Region.noSelect ops = true) (hf : Region.free md ops listed i = true) (hr : (Region.ready md ops listed).contains i = true)
    (hQ : ∀ c a w, Q (.panic c) (a.put oi.dst undef) w → Q (.panic c) a w) (hS : S w) (hw : Region.wanted oi (yielded ops a.tmps) = false)
    (h : ∀ a', a' = a.put oi.dst undef → wpAnyH P md ops Q S fuel (listed.setIfInBounds i true) a' w) : wpAnyH P md ops Q S (fuel + 1) listed a w :=
  wpAnyH_take hi hs hf hr hQ (.inr ⟨hw, rfl⟩) hS (h _ rfl)
/-- One that comes up alone, whatever it does. -/
theorem aloneT {i : Nat} {oi : Oper} {fuel : Nat} {listed : Array Bool} (hi : ops[i]? = some oi) (hr : Region.ready md ops listed = [i]) (hw : Region.wanted oi (yielded ops a.tmps) = true)
    (h : oi.wp P a w (fun a' w' => S w' ∧ wpAnyH P md ops Q S fuel (listed.setIfInBounds i true) a' w') Q) : wpAnyH P md ops Q S (fuel + 1) listed a w := by
  refine wpAnyH_all hr (by simp) fun j hj => ?_
  obtain rfl := List.mem_singleton.1 hj
  refine wpOp_step hi fun K hK => ?_
  rw [if_pos hw]
  exact Oper.wp_mono (fun _ _ h => hK _ _ h) h
/-- One of several that come up. -/
theorem manyT {i : Nat} {oi : Oper} {K' : Act → World → Prop} (hi : ops[i]? = some oi) (hw : Region.wanted oi (yielded ops a.tmps) = true) (h : oi.wp P a w K' Q) : wpOp P ops Q i K' a w := by
  refine wpOp_step hi fun K hK => ?_
  rw [if_pos hw]
  exact Oper.wp_mono (fun _ _ h => hK _ _ h) h
theorem wpCall {f : FuncId} {args : Array Value} {K : Act → World → Prop} (hen : ∀ w, (execOp a.eval o).run P w = .ok (.enter f args) w) (R : Value → World → Prop)
    (hc : Calls P f args w fun e w' => ∃ v, e = .returned v ∧ R v w') (h : ∀ v w', R v w' → K (a.put o.dst v) w') : o.wp P a w K Q := by
  unfold Oper.wp
  rw [hen, Oper.upon_enter]
  exact hc.mono (by rintro e w' ⟨v, rfl, r⟩; exact h v w' r)
theorem wpRun {K : Act → World → Prop} {v : Value} {w' : World} (hr : (execOp a.eval o).run P w = .ok (.value v) w') (h : K (a.put o.dst v) w') : o.wp P a w K Q := by
  unfold Oper.wp
  rw [hr, Oper.upon_value]; exact h
theorem wpSkip {K : Act → World → Prop} {w' : World} (hr : (execOp a.eval o).run P w = .ok .skip w') (h : K (a.put o.dst undef) w') : o.wp P a w K Q := by
  unfold Oper.wp
  rw [hr]; exact h
theorem mvT {x : Operand} {v : Value} (ho : o.op = .move x) (hx : a.eval x = v) (w : World) : (execOp a.eval o).run P w = .ok (.value v) w := by
  unfold execOp; simp only [ho, hx, Sem.run_pure]
theorem asT {x : Operand} {v : Value} (ho : o.op = .assign x) (hx : a.eval x = v) (w : World) : (execOp a.eval o).run P w = .ok (.value v) w := by
  unfold execOp; simp only [ho, hx, Sem.run_pure]
theorem iaT {t : TypeId} {x y : Operand} {vx vy v : Value} (ho : o.op = .indexAddr t x y) (hx : a.eval x = vx) (hy : a.eval y = vy) (hr : (Instr.indexAt t vx vy).run P w = .ok v w) : (execOp a.eval o).run P w = .ok (.value v) w := by
  unfold execOp
  simp only [ho, hx, hy, Sem.run_bind, hr, Result.andThen_ok, Sem.run_pure]
theorem faT {ty : TypeId} {i : Nat} {x : Operand} {v v' : Value} (ho : o.op = .fieldAddr ty x i) (hx : a.eval x = v) (hr : (Instr.fieldAt ty v i).run P w = .ok v' w) : (execOp a.eval o).run P w = .ok (.value v') w := by
  unfold execOp
  simp only [ho, hx, Sem.run_bind, hr, Result.andThen_ok, Sem.run_pure]
theorem ldT {ty : TypeId} {x : Operand} {ad : Addr} {v : Value} (ho : o.op = .load ty x) (hx : a.eval x = .pointer (some ad)) (hr : (Instr.loadAt ty (.pointer (some ad))).run P w = .ok v w) : (execOp a.eval o).run P w = .ok (.value v) w := by
  unfold execOp
  simp only [ho, hx, Sem.run_bind, hr, Result.andThen_ok, Sem.run_pure]
theorem lrT {ty : TypeId} {x : Operand} {b off : Nat} {cs : List Value} {d : TypeDesc} (ho : o.op = .load ty x) (hx : a.eval x = .pointer (some ⟨b, off, none⟩)) (hc : w.rangeAt b off cs)
    (hu : P.underlying ty = some d) (hd : d.isRow = true) (hi : (P.info? ty).map (·.size) = some cs.length) : (execOp a.eval o).run P w = .ok (.value (.agg cs.toArray)) w := by
  unfold execOp
  simp only [ho, hx, Sem.run_bind, run_loadAt_mid w b off ty cs d hc hu hd hi, Result.andThen_ok, Sem.run_pure]
theorem smT {ty : TypeId} {x y : Operand} {g off : Nat} {cells : Array Value} (ho : o.op = .store ty x y) (hx : a.eval x = .pointer (some ⟨g, off, none⟩)) (hy : a.eval y = .agg cells)
    (ht : w.there g off cells.size) (hi : (P.info? ty).map (·.size) = some cells.size) (h1 : cells.all (·.oneCell') = true) : (execOp a.eval o).run P w = .ok .skip (w.setCells g off cells.toList) := by
  unfold execOp
  simp only [ho, hx, hy, Sem.run_bind, run_storeAt_mid w g off ty cells ht hi h1, Result.andThen_ok, Sem.run_pure]
theorem s1T {ty : TypeId} {x y : Operand} {v u : Value} {w' : World} (ho : o.op = .store ty x y) (hx : a.eval x = v) (hy : a.eval y = u) (hr : (Instr.storeAt ty v u).run P w = .ok () w') : (execOp a.eval o).run P w = .ok .skip w' := by
  unfold execOp
  simp only [ho, hx, hy, Sem.run_bind, hr, Result.andThen_ok, Sem.run_pure]
theorem clT {f : FuncId} {xs : Array Operand} {ts : Array TypeId} {args : Array Value} (ho : o.op = .call { callee := .value (.func f), args := xs, argTypes := ts }) (hargs : xs.map a.eval = args)
    (hcf : ∀ args w, (callFunc f args).run P w = .ok (.enter f args) w) (w : World) : (execOp a.eval o).run P w = .ok (.enter f args) w := by
  have e1 : a.eval (.func f) = .func (.func f) #[] #[] := rfl
  unfold execOp
  simp [ho, resolve, invoke, hargs, hcf, e1, Deferred.ofValue]
theorem pkT {c x y : Operand} {b : Bool} {vx vy : Value} (ho : o.op = .pick c x y) (hc : a.eval c = .bool b) (hx : a.eval x = vx) (hy : a.eval y = vy) (w : World) : (execOp a.eval o).run P w = .ok (.value (bif b then vx else vy)) w := by
  unfold execOp
  cases b <;> simp [ho, hc, hx, hy, asBool] <;> rfl
theorem bdT {t : TypeId} {parts : Array (Nat × Operand)} {vals : Array (Nat × Value)} {cells : Array Value} (ho : o.op = .build t parts) (hv : (parts.map fun (i, x) => (i, a.eval x)) = vals) (hb : P.built t vals.toList = some cells) (w : World) : (execOp a.eval o).run P w = .ok (.value (.agg cells)) w := by
  unfold execOp
  simp only [ho, hv, Sem.run_bind, run_build w t _ _ hb, Result.andThen_ok, Sem.run_pure]
theorem lsT {x : Operand} {t : TypeId} {s : ByteArray} (ho : o.op = .call { callee := .builtin .len, args := #[x], argTypes := #[t] }) (hx : a.eval x = .string s) (ht : P.underlying t = some .string) (w : World) :
    (execOp a.eval o).run P w = .ok (.value (.int .i64 (s.size : Int))) w := by
  unfold execOp
  simp [ho, resolve, invoke, builtin, hx]
  go_simp
theorem boT {bo : BinOp} {t u : TypeId} {x y : Operand} {vx vy v : Value} (ho : o.op = .binOp bo t x y u) (hx : a.eval x = vx) (hy : a.eval y = vy) (hg : (eqGuard bo t x y vx vy).run P w = .ok () w) (hr : (binOp bo t vx vy).run P w = .ok v w) : (execOp a.eval o).run P w = .ok (.value v) w := by
  unfold execOp
  simp only [ho, hx, hy, Sem.run_bind, hg, hr, Result.andThen_ok, Sem.run_pure]
theorem bsT {t : TypeId} {n : Nat} {parts : Array (Nat × Operand)} {vals : Array (Nat × Value)} {v : Value} {w' : World} (ho : o.op = .buildSlice t n parts) (hv : (parts.map fun (i, x) => (i, a.eval x)) = vals)
    (hr : (Instr.buildSlice t n vals).run P w = .ok v w') : (execOp a.eval o).run P w = .ok (.value v) w' := by
  unfold execOp
  simp only [ho, hv, Sem.run_bind, hr, Result.andThen_ok, Sem.run_pure]
theorem wpAl {K : Act → World → Prop} {t : TypeId} (ho : o.op = .alloc t) (zs : List Value) (hal : ∀ w, (Instr.alloc t true (.tuple #[])).run P w = .ok (.pointer (some ⟨w.heap.size, 0, none⟩)) (w.alloc (.cells zs.toArray t (0, 0))))
    (h : ∀ g w', Qt w w' → w.heap.size ≤ g → Blk w' g t zs → K (a.put o.dst (.pointer (some ⟨g, 0, none⟩))) w') : o.wp P a w K Q := by
  refine wpRun (v := .pointer (some ⟨w.heap.size, 0, none⟩)) (w' := w.alloc (.cells zs.toArray t (0, 0))) ?_ (h _ _ ((Qt.refl w).alloc _) (Nat.le_refl _) (heap_alloc_new w _))
  unfold execOp
  simp only [ho, Sem.run_bind, hal, Result.andThen_ok, Sem.run_pure]
theorem lnT {x : Operand} {t e : TypeId} {b : Option Addr} {n c : Nat} (ho : o.op = .call { callee := .builtin .len, args := #[x], argTypes := #[t] }) (hx : a.eval x = .slice b n c) (ht : P.underlying t = some (.slice e)) (w : World) :
    (execOp a.eval o).run P w = .ok (.value (.int .i64 (n : Int))) w := by
  unfold execOp
  simp [ho, resolve, invoke, builtin, hx]
  go_simp
end
theorem evS {a : Act} {d : Nat} {v : Value} (h : d < a.tmps.size) : (a.put (some d) v).eval (.tmp d) = v := by
  simp [Act.put, Act.eval, h]
theorem evO {a : Act} {d e : Nat} {v : Value} (h : d ≠ e) : (a.put (some d) v).eval (.tmp e) = a.eval (.tmp e) := by
  simp [Act.put, Act.eval, h]
theorem Blk.there {w : World} {a : Nat} {t : TypeId} {c : List Value} (h : Blk w a t c) (o n : Nat) (hn : o + n ≤ c.length) : w.there a o n := by
  intro i hi
  refine ⟨?_, h.frozen _⟩
  rw [h.cell, List.getElem?_eq_getElem (by omega)]; rfl
end Go.Proofs.Ytipgpnkdgofdeaa.Tm
