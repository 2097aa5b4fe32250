import Derived.Test.YtipgpnkdgofdeaaD
import Derived.Laws.Rows
import Derived.RegionTactic
import Derived.BigRegion
/-! Steps of a region that draws its order, the world a letter behind each. -/
namespace Go.Proofs.Ytipgpnkdgofdeaa
open Go.RowKit

section
variable {P : Program} {o : Oper} {a : Act} {w : World} {K : Act → World → Prop} {Q : Exit → Act → World → Prop} {E : Prop} {y : Nat → Option Bool}
theorem st_wanted (hg : o.guard = none) (h : Oper.wp P o a w K Q) : if Region.wanted o y = true then Oper.wp P o a w K Q else E := by
  have hw : Region.wanted o y = true := by simp [Region.wanted, hg]
  rw [if_pos hw]; exact h

theorem st_call (hg : o.guard = none) (f : FuncId) (args : Array Value) (hen : ∀ w, (execOp a.eval o).run P w = .ok (.enter f args) w) (v : Value) (R : World → Prop)
    (hc : Calls P f args w fun e w' => e = .returned v ∧ R w') (h : ∀ w', R w' → K (a.put o.dst v) w') : if Region.wanted o y = true then Oper.wp P o a w K Q else E := by
  refine st_wanted hg ?_
  unfold Oper.wp
  rw [hen, Oper.upon_enter]
  exact hc.mono (by rintro e w' ⟨rfl, r⟩; exact h w' r)

theorem st_call1 (hg : o.guard = none) (f : FuncId) (x : Operand) (t : TypeId) (ho : o.op = .call { callee := .value (.func f), args := #[x], argTypes := #[t] }) (vx : Value) (hx : a.eval x = vx)
    (hcf : ∀ w, (callFunc f #[vx]).run P w = .ok (.enter f #[vx]) w) (v : Value) (R : World → Prop)
    (hc : Calls P f #[vx] w fun e w' => e = .returned v ∧ R w') (h : ∀ w', R w' → K (a.put o.dst v) w') : if Region.wanted o y = true then Oper.wp P o a w K Q else E := by
  refine st_call hg f #[vx] (fun w => ?_) v R hc h
  have e1 : a.eval (.func f) = .func (.func f) #[] #[] := rfl
  simp [execOp, ho, resolve, invoke, hx, hcf, e1, Deferred.ofValue]

theorem st_alloc (hg : o.guard = none) (t : TypeId) (ho : o.op = .alloc t) (zs : Array Value) (hal : ∀ w, (Instr.alloc t true (.tuple #[])).run P w = .ok (.pointer (some ⟨w.heap.size, 0, none⟩)) (w.alloc (.cells zs t (0, 0))))
    (h : ∀ g w', Qt w w' → w.heap.size ≤ g → w'.heap[g]? = some (.cells zs t (0, 0)) → K (a.put o.dst (.pointer (some ⟨g, 0, none⟩))) w') : if Region.wanted o y = true then Oper.wp P o a w K Q else E := by
  refine st_wanted hg ?_
  unfold Oper.wp execOp
  simp only [ho, Sem.run_bind, hal, Result.andThen_ok, Sem.run_pure]
  exact h _ _ ((Qt.refl w).alloc _) (Nat.le_refl _) (heap_alloc_new w _)

theorem st_store (hg : o.guard = none) (ty : TypeId) (x z : Operand) (ho : o.op = .store ty x z) (g : Nat) (cells : Array Value) (hx : a.eval x = .pointer (some ⟨g, 0, none⟩)) (hy : a.eval z = .agg cells)
    (t : TypeId) (old : Array Value) (hgd : w.heap[g]? = some (.cells old t (0, 0))) (hi : (P.info? ty).map (·.size) = some cells.size) (hold : old.size = cells.size) (h1 : cells.all (·.oneCell') = true)
    (h : ∀ w', w.grownBy w' (some g) → w'.heap[g]? = some (.cells cells t (0, 0)) → K (a.put o.dst undef) w') : if Region.wanted o y = true then Oper.wp P o a w K Q else E := by
  refine st_wanted hg (wp_store_row ty x z ho g cells hx hy t old hgd hi hold h1 ?_)
  exact h _ ⟨rfl, rfl, rfl, by rw [setRow_size]; exact Nat.le_refl _, fun k _ hk => setRow_other w g k cells (fun e => hk (by rw [e]))⟩ (setRow_heap w g old cells t (0, 0) hgd)

/-- A value made by an operation that runs in this world. -/
theorem st_run (hg : o.guard = none) (v : Value) (w' : World) (hr : (execOp a.eval o).run P w = .ok (.value v) w') (h : K (a.put o.dst v) w') : if Region.wanted o y = true then Oper.wp P o a w K Q else E := by
  refine st_wanted hg ?_
  unfold Oper.wp
  rw [hr, Oper.upon_value]
  exact h
/-- A row that is made: its block a letter. -/
theorem st_mk (hg : o.guard = none) (n : Nat) (cs : Array Value) (t : TypeId) (hr : (execOp a.eval o).run P w = .ok (.value (.slice (some ⟨w.heap.size, 0, none⟩) n n)) (w.alloc (.cells cs t)))
    (h : ∀ g w', Qt w w' → w.heap.size ≤ g → w'.heap[g]? = some (.cells cs t (0, 0)) → K (a.put o.dst (.slice (some ⟨g, 0, none⟩) n n)) w') : if Region.wanted o y = true then Oper.wp P o a w K Q else E := by
  refine st_run hg _ _ hr (h _ _ ((Qt.refl w).alloc _) (Nat.le_refl _) (heap_alloc_new w _))
theorem st_buildSlice (hg : o.guard = none) (t : TypeId) (n : Nat) (parts : Array (Nat × Operand)) (vals : Array (Nat × Value)) (ho : o.op = .buildSlice t n parts) (hv : (parts.map fun (i, x) => (i, a.eval x)) = vals) (v : Value) (w' : World)
    (hr : (Instr.buildSlice t n vals).run P w = .ok v w') (h : K (a.put o.dst v) w') : if Region.wanted o y = true then Oper.wp P o a w K Q else E := by
  refine st_run hg v w' ?_ h
  unfold execOp
  simp only [ho, hv, Sem.run_bind, hr, Result.andThen_ok, Sem.run_pure]
theorem st_appQ (hgd : o.guard = none) (s x : Operand) (t tx : TypeId)
    (ho : o.op = .call { callee := .builtin .append, args := #[s, x], argTypes := #[t, tx] })
    (base : Nat) (e : TypeId) (i : TypeInfo) (z : Value) (size bytes : Nat) (ht : P.underlying t = some (.slice e)) (hi : P.info? e = some i) (hz : i.zero = some z)
    (hsize : i.size = size) (hby : i.bytes = bytes) (hzs : z.cells.size = size)
    (v : Value) (n : Nat) (xs : List Value) (hsv : a.eval s = v) (hv : OQ w base size v n xs) (u : Value) (m : Nat) (news : List Value) (hxv : a.eval x = u) (hs : Src P size tx u m news w)
    (h63 : n + m ≤ maxLen) (hb : (n + m) * bytes ≤ 140737488355328) (hbase : base ≤ w.heap.size)
    (h : ∀ v' w', OQ w' base size v' (n + m) (xs ++ news) → w.grownBy w' v.ownBlock → (v'.ownBlock = v.ownBlock ∨ ∃ g, v'.ownBlock = some g ∧ w.heap.size ≤ g) → K (a.put o.dst v') w') :
    if Region.wanted o y = true then Oper.wp P o a w K Q else E := by
  refine st_wanted hgd ?_
  obtain ⟨v', w', hrun, h1, h2, h3⟩ := run_appQ (P := P) (w := w) base t tx o.type e i z size bytes ht hi hz hsize hby hzs v n xs hv u m news hs h63 hb hbase
  unfold Oper.wp
  simp [execOp, ho, resolve, invoke, builtin, hsv, hxv, hrun, Result.andThen]
  exact h v' w' h1 h2 h3
end
theorem gen_frame {P : Program} {md : Region.Mode} {ops : Array Oper} {Q : Exit → Act → World → Prop} {fuel : Nat} {listed : Array Bool} {a : Act} {w : World} (h : ∀ a0, a0 = a → wpAny P md ops Q fuel listed a0 w) : wpAny P md ops Q fuel listed a w := h a rfl
theorem ev_same {a : Act} {d : Nat} {v : Value} (h : d < a.tmps.size) : (a.put (some d) v).eval (.tmp d) = v := by
  simp [Act.put, Act.eval, h]
theorem ev_other {a : Act} {d e : Nat} {v : Value} (h : d ≠ e) : (a.put (some d) v).eval (.tmp e) = a.eval (.tmp e) := by
  simp [Act.put, Act.eval, h]
theorem ev_none {a : Act} {v : Value} {e : Operand} : (a.put none v).eval e = a.eval e := rfl
theorem put_size {a : Act} {d : Option Nat} {v : Value} : (a.put d v).tmps.size = a.tmps.size := by
  cases d <;> simp [Act.put]
theorem blk_app {w w' : World} {base size n k : Nat} {v : Value} {xs : List Value} {o : Obj} (h : w.heap[k]? = some o) (ho : OQ w base size v n xs) (q : w.grownBy w' v.ownBlock) (hk : k < base) : w'.heap[k]? = some o := by
  have hl : k < w.heap.size := by
    rcases Nat.lt_or_ge k w.heap.size with h' | h'
    · exact h'
    · rw [Array.getElem?_eq_none h'] at h; cases h
  exact (q.block k hl (fun e => by have := (ho.lt k e.symm).1; omega)).trans h
theorem blk_qt {w w' : World} {g : Nat} {o : Obj} (h : w.heap[g]? = some o) (q : Qt w w') : w'.heap[g]? = some o := by
  have hg : g < w.heap.size := by
    rcases Nat.lt_or_ge g w.heap.size with h' | h'
    · exact h'
    · rw [Array.getElem?_eq_none h'] at h; cases h
  exact (q.block g hg).trans h
theorem blk_lt {w : World} {g : Nat} {o : Obj} (h : w.heap[g]? = some o) : g < w.heap.size := by
  rcases Nat.lt_or_ge g w.heap.size with h' | h'
  · exact h'
  · rw [Array.getElem?_eq_none h'] at h; cases h
theorem blk_far {w w' : World} {g k : Nat} {o : Obj} (h : w.heap[k]? = some o) (q : w.grownBy w' (some g)) (hk : k ≠ g) : w'.heap[k]? = some o :=
  (q.block k (blk_lt h) (fun e => hk (by simpa using e))).trans h
theorem qt_grown {w0 w w' : World} {g : Nat} (h : Qt w0 w) (q : w.grownBy w' (some g)) (hg : w0.heap.size ≤ g) : Qt w0 w' :=
  Below.trans h ⟨q.os, q.tape, q.output, q.size, fun k hk => q.block k (by have := h.size; omega) (fun e => by simp at e; omega)⟩
end Go.Proofs.Ytipgpnkdgofdeaa
