import Derived.Test.YtajkmblcphdnbaaGreatVR
/-! WireReads: words. -/
namespace Go.Proofs.YtajkmblcphdnbaaGreat
open Go.RowKit
set_option linter.unusedVariables false
set_option linter.unusedSimpArgs false

/-- What is left is bytes, of a length that there is. -/
def StOk (st : Option (List Nat)) : Prop := ∀ l, st = some l → l.length ≤ 140737488355328 ∧ ∀ x ∈ l, x < 256
theorem StOk.none : StOk none := fun l h => by cases h
theorem StOk.drop {l : List Nat} (h : StOk (some l)) (k : Nat) : StOk (some (l.drop k)) := by
  rintro _ ⟨⟩
  obtain ⟨h1, h2⟩ := h l rfl
  exact ⟨by rw [List.length_drop]; omega, fun x hx => h2 x (List.mem_of_mem_drop hx)⟩
theorem StOk.nxt {st : Option (List Nat)} (h : StOk st) (k : Nat) : StOk (nxt k st) := by
  cases st with
  | none => exact h
  | some l =>
    rw [Go.Proofs.YtajkmblcphdnbaaGreat.nxt]
    split
    · exact h.drop k
    · exact .none
theorem StOk.next {st : Option (List Nat)} (h : StOk st) (x : PutD) (k : Nat) : StOk (nextK x st k) := by
  unfold nextK
  split
  · exact h.nxt 1
  · exact h.nxt 2
  · exact h.nxt 4
  · exact h.nxt 8
  · exact h.nxt 8
  · exact h.nxt 32
  · cases st with
    | none => exact h
    | some l => rw [rawN]; split; exact h.drop _; exact .none
  · cases st with
    | none => exact h
    | some l => rw [textN]; split; exact (h.drop 2).drop _; exact .none
  · cases st with
    | none => exact h
    | some l => rw [flagN]; split; exact h.drop 1; exact .none
  · cases st with
    | none => exact h
    | some l => rw [cntN]; split; exact h.drop 2; exact .none
theorem StOk.num {st : Option (List Nat)} (h : StOk st) (k : Nat) : num k st < 256 ^ k := num_lt k st (fun l e => (h l e).2)
theorem StOk.left {st : Option (List Nat)} (h : StOk st) : leftV st ≤ 140737488355328 := by
  cases st with
  | none => exact Nat.zero_le _
  | some l => exact Nat.le_trans (by simp [leftV]) (h l rfl).1
theorem StOk.cnt {st : Option (List Nat)} (h : StOk st) (n : Int) : cntV n st < 65536 := by
  cases st with
  | none => exact Nat.zero_lt_succ _
  | some l =>
    rw [cntV]
    split
    · rename_i hc
      have := be_lt (l.take 2) (fun x hx => (h l rfl).2 x (List.mem_of_mem_take hx))
      rw [List.length_take, Nat.min_eq_left hc.1] at this
      exact Nat.lt_of_lt_of_le this (by decide)
    · decide
theorem StOk.hsh {st : Option (List Nat)} (h : StOk st) : ∀ x ∈ hshV st, x < 256 := by
  have hz : ∀ x ∈ Z32, x < 256 := by decide
  cases st with
  | none => exact hz
  | some l =>
    rw [hshV]
    split
    · exact fun x hx => (h l rfl).2 x (List.mem_of_mem_take hx)
    · exact hz
theorem StOk.raw {st : Option (List Nat)} (h : StOk st) (n : Int) : (rawB n st).length ≤ 140737488355328 := by
  cases st with
  | none => exact Nat.zero_le _
  | some l =>
    rw [rawB]
    split
    · rw [List.length_take]; have := (h l rfl).1; omega
    · exact Nat.zero_le _
theorem StOk.text {st : Option (List Nat)} (h : StOk st) (n : Int) : (textB n st).length ≤ 140737488355328 := by
  cases st with
  | none => exact Nat.zero_le _
  | some l =>
    rw [textB]
    split
    · rw [List.length_take, List.length_drop]; have := (h l rfl).1; omega
    · exact Nat.zero_le _
theorem errX_bd (m : RM) (st : Option (List Nat)) : -9223372036854775808 ≤ errX m st ∧ errX m st < 9223372036854775808 := by
  unfold errX
  split
  · split <;> decide
  · decide
theorem toldX_ok (x : PutD) (m : RM) (st : Option (List Nat)) (h : StOk st) : (∃ la, Tryz.prog.keyLits 5 49 (toldX x m st) = some la) ∧ (toldX x m st).length = 39 := by
  have h10 := pk_lt x
  unfold toldX
  have hl := (h.next x (pk x)).left
  have he := errX_bd m (nextK x st (pk x))
  generalize leftV (nextK x st (pk x)) = l at *
  generalize errX m (nextK x st (pk x)) = e at *
  generalize (nextK x st (pk x) == some []) = en at *
  have hz : ∀ x ∈ Z32, x < 256 := by decide
  have hm : (str []).size ≤ maxLen := by decide
  have hm2 : ∀ b : List Nat, b.length ≤ 140737488355328 → (str b).size ≤ maxLen := fun b hb => by rw [str_size]; unfold maxLen; omega
  have n1 : num 1 st < 9223372036854775808 := Nat.lt_of_lt_of_le (h.num 1) (by decide)
  have n2 : num 2 st < 9223372036854775808 := Nat.lt_of_lt_of_le (h.num 2) (by decide)
  have n4 : num 4 st < 9223372036854775808 := Nat.lt_of_lt_of_le (h.num 4) (by decide)
  have n8 : num 8 st < 18446744073709551616 := Nat.lt_of_lt_of_le (h.num 8) (by decide)
  have nc := h.cnt x.n
  have go : ∀ (n : Int) (u : Nat) (hh : List Nat) (s : ByteArray) (is : Bool), (-9223372036854775808 ≤ n ∧ n < 9223372036854775808) → u < 18446744073709551616 → hh.length = 32 → (∀ x ∈ hh, x < 256) → s.size ≤ maxLen →
      (∃ la, Tryz.prog.keyLits 5 49 (toldC n u hh s is l e en) = some la) ∧ (toldC n u hh s is l e en).length = 39 := fun n u hh s is a1 a2 a3 a4 a5 =>
    ⟨told_lits n u hh s is l e en a1 a2 a3 a4 a5 (by omega) he, toldZ_39 n u hh a3 s is l e en⟩
  generalize pk x = k at *
  match k, h10 with
  | 0, _ => exact go _ _ _ _ _ (by omega) (by decide) Z32_len hz hm
  | 1, _ => exact go _ _ _ _ _ (by omega) (by decide) Z32_len hz hm
  | 2, _ => exact go _ _ _ _ _ (by omega) (by decide) Z32_len hz hm
  | 3, _ => exact go _ _ _ _ _ (by decide) n8 Z32_len hz hm
  | 4, _ => exact go _ _ _ _ _ (by decide) n8 Z32_len hz hm
  | 5, _ => exact go _ _ _ _ _ (by decide) (by decide) (hshV_len st) h.hsh hm
  | 6, _ => exact go _ _ _ _ _ (by decide) (by decide) Z32_len hz (hm2 _ (h.raw x.n))
  | 7, _ => exact go _ _ _ _ _ (by decide) (by decide) Z32_len hz (hm2 _ (h.text x.n))
  | 8, _ => exact go _ _ _ _ _ (by decide) (by decide) Z32_len hz hm
  | 9, _ => exact go _ _ _ _ _ (by omega) (by decide) Z32_len hz hm

theorem OQ.set {w : World} {base g off n c k : Nat} {xs : List Value} (h : OQ w base 1 (.slice (some ⟨g, off, none⟩) n c) n xs) (v : Value) (hk : k < n) : OQ (w.setCell ⟨g, off + k, none⟩ v) base 1 (.slice (some ⟨g, off, none⟩) n c) n (xs.set k v) := by
  obtain ⟨h1, ⟨h2, _⟩ | ⟨g', off', cap, h2, hb, hg, hn, hm, hc, hx⟩⟩ := h
  · cases h2
  · simp only [Value.slice.injEq, Option.some.injEq, Addr.mk.injEq] at h2
    obtain ⟨⟨rfl, rfl, _⟩, _, rfl⟩ := h2
    refine ⟨by rw [List.length_set]; exact h1, .inr ⟨g, off, c, rfl, hb, by simpa [World.setCell] using hg, hn, hm, fun j hj => ?_, fun j u hu => ?_⟩⟩
    · obtain ⟨s1, s2⟩ := hc j hj
      by_cases e : k = j
      · subst e
        exact ⟨by rw [World.cell?_setCell_same' _ _ _ s1]; rfl, by simpa [go_sem] using s2⟩
      · refine ⟨?_, by simpa [go_sem] using s2⟩
        rw [World.cell?_setCell_other (h := by intro e2; simp only [Addr.mk.injEq] at e2; omega)]; exact s1
    · rw [List.getElem?_set] at hu
      by_cases e : k = j
      · subst e
        rw [if_pos rfl] at hu
        split at hu
        · cases hu; exact World.cell?_setCell_same' _ _ _ (hc k (by omega)).1
        · cases hu
      · rw [if_neg e] at hu
        rw [World.cell?_setCell_other (h := by intro e2; simp only [Addr.mk.injEq] at e2; omega)]
        exact hx j u hu
/-- A new reader's bytes lie in a block of its own. -/
theorem NewReader_own (v : Value) (l : List Nat) (w : World) (hs : Sl w v l) (hl : ∀ x ∈ l, x < 256) : Calls Tryz.prog 13 #[v] w fun e w' => ∃ a sl, e = .returned (.pointer (some ⟨a, 0, none⟩)) ∧ w.heap.size ≤ a ∧ Blk w' a 69 [.bool true, .bool false, sl] ∧ OQ w' w.heap.size 1 sl l.length (u8s l) ∧ Qt w w' := by
  have HC := Lib.hid (clone_any v l w hs)
  have HL := Lib.hid hl
  clear hs hl
  go_enter Tryz.func13, Tryz.ntmps13
  go_wp2_with (go_at_call 42; refine HC.out.mono ?_; rintro e w1 ⟨r, rfl, ho, hq⟩; obtain ⟨a1, c1, rfl⟩ := ho.slice; (have HO := Lib.hid ho); (have HQ := Lib.hid hq); clear ho hq)
  go_ret
  exact ⟨_, _, rfl, HQ.out.size, Blk.new _ _ _, HO.out.alloc _, HQ.out.alloc _⟩

section
variable {P : Program} {md : Region.Mode} {ops : Array Oper} {Q : Exit → Act → World → Prop} {S : World → Prop} {o : Oper} {a : Act} {w : World}
theorem mv1 {x : Operand} {v : Value} (ho : o.op = .move x) (hx : a.eval x = v) (w : World) : (execOp a.eval o).run P w = .ok (.value v) w := by
  unfold execOp; simp only [ho, hx, Sem.run_pure]
theorem as1 {x : Operand} {v : Value} (ho : o.op = .assign x) (hx : a.eval x = v) (w : World) : (execOp a.eval o).run P w = .ok (.value v) w := by
  unfold execOp; simp only [ho, hx, Sem.run_pure]
theorem ia1 {t : TypeId} {x y : Operand} {vx vy v : Value} (ho : o.op = .indexAddr t x y) (hx : a.eval x = vx) (hy : a.eval y = vy) (hr : (Instr.indexAt t vx vy).run P w = .ok v w) : (execOp a.eval o).run P w = .ok (.value v) w := by
  unfold execOp
  simp only [ho, hx, hy, Sem.run_bind, hr, Result.andThen_ok, Sem.run_pure]
theorem cv1 {s t : TypeId} {x : Operand} {vx v : Value} (ho : o.op = .convert s t x) (hx : a.eval x = vx) (hr : (convert s t vx).run P w = .ok v w) : (execOp a.eval o).run P w = .ok (.value v) w := by
  unfold execOp
  simp only [ho, hx, Sem.run_bind, hr, Result.andThen_ok, Sem.run_pure]
theorem bo1 {bo : BinOp} {t u : TypeId} {x y : Operand} {vx vy v : Value} (ho : o.op = .binOp bo t x y u) (hx : a.eval x = vx) (hy : a.eval y = vy) (hg : (eqGuard bo t x y vx vy).run P w = .ok () w) (hr : (binOp bo t vx vy).run P w = .ok v w) : (execOp a.eval o).run P w = .ok (.value v) w := by
  unfold execOp
  simp only [ho, hx, hy, Sem.run_bind, hg, hr, Result.andThen_ok, Sem.run_pure]
theorem clF {f : FuncId} {xs : Array Operand} {ts : Array TypeId} {args : Array Value} (ho : o.op = .call { callee := .value (.func f), args := xs, argTypes := ts }) (hargs : xs.map a.eval = args)
    (hcf : ∀ args w, (callFunc f args).run P w = .ok (.enter f args) w) (w : World) : (execOp a.eval o).run P w = .ok (.enter f args) w := by
  have e1 : a.eval (.func f) = .func (.func f) #[] #[] := rfl
  unfold execOp
  simp [ho, resolve, invoke, hargs, hcf, e1, Deferred.ofValue]
/-- A call that comes up alone. -/
theorem clH {i : Nat} {oi : Oper} {fuel : Nat} {listed : Array Bool} (hi : ops[i]? = some oi) (hr : Region.ready md ops listed = [i]) (hw : Region.wanted oi (yielded ops a.tmps) = true)
    (f : FuncId) (args : Array Value) (hen : ∀ w, (execOp a.eval oi).run P w = .ok (.enter f args) w) (v : Value) (R : World → Prop)
    (hc : Calls P f args w fun e w' => e = .returned v ∧ R w') (h : ∀ w' a', a' = a.put oi.dst v → R w' → S w' ∧ wpAnyH P md ops Q S fuel (listed.setIfInBounds i true) a' w') : wpAnyH P md ops Q S (fuel + 1) listed a w := by
  refine wpAnyH_all hr (by simp) fun j hj => ?_
  obtain rfl := List.mem_singleton.1 hj
  refine wpOp_step hi fun K hK => ?_
  rw [if_pos hw]
  unfold Oper.wp
  rw [hen, Oper.upon_enter]
  exact hc.mono (by rintro e w' ⟨rfl, r⟩; exact hK _ _ (h w' _ rfl r))
end
end Go.Proofs.YtajkmblcphdnbaaGreat
