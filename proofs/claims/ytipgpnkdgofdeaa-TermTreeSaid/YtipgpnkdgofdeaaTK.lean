import Derived.Test.YtipgpnkdgofdeaaTJ
import Derived.MapKept
/-! kinds: a map of functions; what is looked up in it. -/
namespace Go.Proofs.Ytipgpnkdgofdeaa.Tm
open Go.RowKit Go.Proofs.Ytipgpnkdgofdeaa.Fl
set_option linter.unusedVariables false
set_option linter.unusedSimpArgs false

def fnv (f : FuncId) : Value := .func (.func f) #[] #[]
def kEs : Array MapEntry := #[⟨.int .i64 1, fnv 75, 0⟩, ⟨.int .i64 2, fnv 76, 1⟩, ⟨.int .i64 3, fnv 77, 2⟩, ⟨.int .i64 4, fnv 78, 3⟩, ⟨.int .i64 5, fnv 79, 4⟩, ⟨.int .i64 6, fnv 80, 5⟩]
def MapAt (w : World) (b : Nat) (es : Array MapEntry) (clock : Nat) : Prop := w.heap[b]? = some (.map es clock)
theorem MapAt.qt {w w' : World} {b : Nat} {es : Array MapEntry} {clock : Nat} (h : MapAt w b es clock) (q : Qt w w') : MapAt w' b es clock := by
  have hb : b < w.heap.size := by
    rcases Nat.lt_or_ge b w.heap.size with h' | h'
    · exact h'
    · unfold MapAt at h; rw [Array.getElem?_eq_none h'] at h; cases h
  exact (q.block b hb).trans h
theorem run_find {k : Int} {es : List MapEntry} {d : TypeDesc} {r : Option (Nat × Value)} (hd : Try.prog.underlying 29 = some d) (hf : Instr.findNow d (.int .i64 k) es 0 = some r) (w : World) : (Instr.findKey 29 (.int .i64 k) es).run Try.prog w = .ok r w := by
  simp only [Instr.findKey, Sem.run_bind, run_underlying hd, Result.andThen_ok, hf, Sem.run_pure]
theorem run_check {k : Int} (e : Bool) (n : Nat) (w : World) : (Instr.checkKey e (n + 1) 29 (.int .i64 k)).run Try.prog w = .ok () w := by
  simp only [Instr.checkKey, Sem.run_bind, run_underlying Try.underlying29, Result.andThen_ok, Sem.run_pure]
theorem run_ins {w : World} {b : Nat} {es : Array MapEntry} {clock : Nat} (hb : MapAt w b es clock) (k : Int) (v : Value) {d : TypeDesc} (hd : Try.prog.underlying 29 = some d) (hf : Instr.findNow d (.int .i64 k) es.toList 0 = some none) :
    (Instr.mapUpdate 77 (.map (some b)) (.int .i64 k) v).run Try.prog w = .ok () { w with heap := w.heap.setIfInBounds b (.map (es.push ⟨.int .i64 k, v, clock⟩) (clock + 1)) } := by
  simp only [Instr.mapUpdate, Sem.run_bind, run_underlying Try.underlying77, Result.andThen_ok, MapKept.run_getObj_map hb, run_check, run_find hd hf, MapKept.run_setObj_map _ hb]
theorem run_look {w : World} {b : Nat} {es : Array MapEntry} {clock : Nat} (hb : MapAt w b es clock) (k : Int) {d : TypeDesc} (hd : Try.prog.underlying 29 = some d) {r : Option (Nat × Value)} (hf : Instr.findNow d (.int .i64 k) es.toList 0 = some r) :
    ∃ Z, (Instr.lookup 77 (.map (some b)) (.int .i64 k) true).run Try.prog w = .ok (.tuple #[(r.map (·.2)).getD Z, .bool r.isSome]) w := by
  obtain ⟨Z, hz⟩ : ∃ Z, ∀ w, (zeroValue 93).run Try.prog w = .ok Z w := ⟨_, fun w => by simp only [zeroValue, Sem.run_bind, typeInfo]; rfl⟩
  refine ⟨Z, ?_⟩
  simp only [Instr.lookup, Sem.run_bind, run_underlying Try.underlying77, Result.andThen_ok, MapKept.run_getObj_map hb, Sem.run_pure, run_check, run_find hd hf]
  cases r with
  | none => simp [hz]
  | some r => obtain ⟨i, v⟩ := r; simp
section
variable {ops : Array Oper} {rest : List Oper} {o : Oper} {a : Act} {w : World} {Q : Exit → Act → World → Prop}
theorem armIns (hgd : o.guard = none) (m x y : Operand) (ho : o.op = .insert 77 m x y) (b : Nat) (hm : a.eval m = .map (some b)) (k : Int) (hx : a.eval x = .int .i64 k) (v : Value) (hy : a.eval y = v)
    {es : Array MapEntry} {clock : Nat} (hb : MapAt w b es clock) {d : TypeDesc} (hd : Try.prog.underlying 29 = some d) (hf : Instr.findNow d (.int .i64 k) es.toList 0 = some none)
    (h : ∀ w', Og b w w' → MapAt w' b (es.push ⟨.int .i64 k, v, clock⟩) (clock + 1) → wpList Try.prog ops Q rest (a.put o.dst undef) w') : wpList Try.prog ops Q (o :: rest) a w := by
  have hbs : b < w.heap.size := by
    rcases Nat.lt_or_ge b w.heap.size with h' | h'
    · exact h'
    · unfold MapAt at hb; rw [Array.getElem?_eq_none h'] at hb; cases hb
  refine wpList_plain hgd fun K hK => wpSkip (w' := { w with heap := w.heap.setIfInBounds b (.map (es.push ⟨.int .i64 k, v, clock⟩) (clock + 1)) }) ?_ (hK _ _ (h _ ⟨rfl, rfl, rfl, by simp, fun i _ hi => ?_⟩ ?_))
  · unfold execOp
    simp only [ho, hm, hx, hy, Sem.run_bind, run_ins hb k v hd hf, Result.andThen_ok, Sem.run_pure]
  · exact Array.getElem?_setIfInBounds_ne (fun e => hi (by rw [e]))
  · unfold MapAt
    simp [hbs]
end
set_option maxHeartbeats 1000000 in
theorem kinds_any (w : World) : Calls Try.prog 58 #[] w fun e w' => (∃ b, e = .returned (.map (some b)) ∧ MapAt w' b kEs 6) ∧ Qt w w' := by
  have HD := Lib.hid Try.underlying29
  go_enter Try.func58, Try.ntmps58
  have hmk : ∀ w, (Instr.makeMap 77 none).run Try.prog w = .ok (.map (some w.heap.size)) (w.alloc (.map #[] 0)) := fun _ => rfl
  have hm0 : MapAt (w.alloc (.map #[] 0)) w.heap.size #[] 0 := heap_alloc_new w _
  go_wp2_with (first
    | (refine armIns rfl (.tmp 1) (.const (.int .i64 1)) (.func 75) rfl w.heap.size rfl 1 rfl (fnv 75) rfl hm0 HD.out rfl ?_; intro w1 og1 hm1; (have HM1 := Lib.hid hm1); (have HQ1 := Lib.hid (show Qt w w1 from og1.qt ((Qt.refl w).alloc _) (Nat.le_refl _))); clear og1 hm1)
    | (refine armIns rfl (.tmp 1) (.const (.int .i64 2)) (.func 76) rfl w.heap.size rfl 2 rfl (fnv 76) rfl HM1.out HD.out rfl ?_; intro w2 og2 hm2; (have HM2 := Lib.hid hm2); (have HQ2 := Lib.hid (show Qt w w2 from og2.qt HQ1.out (Nat.le_refl _))); clear og2 hm2)
    | (refine armIns rfl (.tmp 1) (.const (.int .i64 3)) (.func 77) rfl w.heap.size rfl 3 rfl (fnv 77) rfl HM2.out HD.out rfl ?_; intro w3 og3 hm3; (have HM3 := Lib.hid hm3); (have HQ3 := Lib.hid (show Qt w w3 from og3.qt HQ2.out (Nat.le_refl _))); clear og3 hm3)
    | (refine armIns rfl (.tmp 1) (.const (.int .i64 4)) (.func 78) rfl w.heap.size rfl 4 rfl (fnv 78) rfl HM3.out HD.out rfl ?_; intro w4 og4 hm4; (have HM4 := Lib.hid hm4); (have HQ4 := Lib.hid (show Qt w w4 from og4.qt HQ3.out (Nat.le_refl _))); clear og4 hm4)
    | (refine armIns rfl (.tmp 1) (.const (.int .i64 5)) (.func 79) rfl w.heap.size rfl 5 rfl (fnv 79) rfl HM4.out HD.out rfl ?_; intro w5 og5 hm5; (have HM5 := Lib.hid hm5); (have HQ5 := Lib.hid (show Qt w w5 from og5.qt HQ4.out (Nat.le_refl _))); clear og5 hm5)
    | (refine armIns rfl (.tmp 1) (.const (.int .i64 6)) (.func 80) rfl w.heap.size rfl 6 rfl (fnv 80) rfl HM5.out HD.out rfl ?_; intro w6 og6 hm6; (have HM6 := Lib.hid hm6); (have HQ6 := Lib.hid (show Qt w w6 from og6.qt HQ5.out (Nat.le_refl _))); clear og6 hm6))
  go_ret
  exact ⟨⟨_, rfl, HM6.out⟩, HQ6.out⟩
end Go.Proofs.Ytipgpnkdgofdeaa.Tm
