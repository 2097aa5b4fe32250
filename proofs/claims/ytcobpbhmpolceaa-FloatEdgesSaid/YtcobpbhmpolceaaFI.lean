import Derived.Test.YtcobpbhmpolceaaFU
namespace Go.Proofs.Ytcobpbhmpolceaa
open Go.RowKit

/-- What Int tells: a whole number, or none. -/
def fint (a : Int) : Option Int :=
  if FloatKind.f64.format.order a.toNat 14114281232179134464 = some .gt ∨ FloatKind.f64.format.order a.toNat 14114281232179134464 = some .eq then
    if FloatKind.f64.format.order a.toNat 4890909195324358656 = some .lt then floatToIntVal .f64 a.toNat .i64 else none
  else none

@[go_sem] theorem run_store_float {P : Program} (a : Addr) (m : Mode) (w : World) (k : FloatKind) (n : Nat) : (store a (.float k n) m).run P w = stored P w a (.float k n) m := run_store P w a _ m rfl
@[go_sem] theorem as_none (v : Value) (w : World) : (Instr.typeAssert (.iface 46 v) 20 46 true).run Try.prog w = .ok (.tuple #[v, .bool true]) w := by kernel_rfl

theorem cell_al {w : World} {a : Addr} {v : Value} (h : w.cell? a = some v) (ha : a.block < w.heap.size) (o : Obj) : (w.alloc o).cell? a = some v :=
  (World.cell?_of_block (w := w) (Below.heap_alloc w o a.block ha)).trans h
theorem frozen_al {w : World} {a : Addr} {b : Bool} (h : w.frozen? a = b) (ha : a.block < w.heap.size) (o : Obj) : (w.alloc o).frozen? a = b :=
  (World.frozen?_of_block (w := w) (Below.heap_alloc w o a.block ha)).trans h

theorem catch_panicking (p q : Nat) (x y : Value) (r : Nat) (older : List PanicEntry) (w : World) (hp : w.cell? ⟨p, 0, none⟩ = some x) (hpz : w.frozen? ⟨p, 0, none⟩ = false) (hq : w.cell? ⟨q, 0, none⟩ = some y) (hqz : w.frozen? ⟨q, 0, none⟩ = false) (hpq : p < q) (hqs : q < w.heap.size) :
    CallsD Try.prog 41 #[.pointer (some ⟨p, 0, none⟩), .pointer (some ⟨q, 0, none⟩)] (.panicking ({ v := .iface 46 (.agg #[.float .f64 r]), recovered := false } :: older)) w fun e u' w' =>
      e = .returned (.tuple #[]) ∧ u' = .panicking ({ v := .iface 46 (.agg #[.float .f64 r]), recovered := true } :: older) ∧
      w'.cell? ⟨p, 0, none⟩ = some (.int .i64 0) ∧ w'.cell? ⟨q, 0, none⟩ = some (.bool false) ∧ ∀ B, B ≤ p → Below B w w' := by
  refine callsD_of_wpS Try.func41 rfl fun c₀ cs hu => ?_
  apply wpS_seq
  apply wpS_region
  simp [wpOpsS, go_sem, recoverD, hu, Try.ntmps41, Exit.thenS]
  refine wpS_of_wp ?_
  simp only [Array.replicate_succ, Array.replicate_zero, List.push_toArray, List.setIfInBounds_toArray, List.append_toArray, List.nil_append, List.cons_append, List.set_cons_succ, List.set_cons_zero]
  have hne : ¬ p = q := by omega
  have hne' : ¬ q = p := by omega
  have A1 : ∀ o, (w.alloc o).cell? ⟨p, 0, none⟩ = some x := fun o => cell_al hp (by show p < _; omega) o
  have A2 : ∀ o, (w.alloc o).cell? ⟨q, 0, none⟩ = some y := fun o => cell_al hq hqs o
  have A3 : ∀ o, (w.alloc o).frozen? ⟨p, 0, none⟩ = false := fun o => frozen_al hpz (by show p < _; omega) o
  have A4 : ∀ o, (w.alloc o).frozen? ⟨q, 0, none⟩ = false := fun o => frozen_al hqz hqs o
  go_wp2
  refine ⟨rfl, _, rfl, .tuple #[], by simp [results, Try.results41, go_sem], rfl, rfl, ?_, ?_, fun B hB => ?_⟩
  · simp [go_sem, A1]
  · simp [go_sem, A2]
  · exact (((Below.refl _ _).alloc (by omega) _).setCell hB _).setCell (by simp; omega) _

theorem catch_idle (p q : Addr) (w : World) :
    CallsD Try.prog 41 #[.pointer (some p), .pointer (some q)] .returning w fun e u' w' =>
      e = .returned (.tuple #[]) ∧ u' = .returning ∧ w' = w := by
  refine callsD_of_wpS Try.func41 rfl fun c₀ cs hu => ?_
  apply wpS_seq
  apply wpS_region
  simp [wpOpsS, go_sem, recoverD, hu, Try.ntmps41, Exit.thenS]
  refine wpS_of_wp ?_
  simp only [Array.replicate_succ, Array.replicate_zero, List.push_toArray, List.setIfInBounds_toArray, List.append_toArray, List.nil_append, List.cons_append, List.set_cons_succ, List.set_cons_zero]
  go_wp2
  cases c₀
  simp_all [bodyPostS, results, Try.results41]

theorem whole_yes (x : Nat) (n : Int) (w : World) (h1 : (FloatKind.f64.format.order x 14114281232179134464 == some .gt || FloatKind.f64.format.order x 14114281232179134464 == some .eq) = true)
    (h2 : (FloatKind.f64.format.order x 4890909195324358656 == some .lt) = true) (hn : floatToIntVal .f64 x .i64 = some n) :
    Calls Try.prog 42 #[.float .f64 x] w fun e w' => e = .returned (.int .i64 n) ∧ w = w' := by
  have H : ∀ w, (convert 38 2 (.float .f64 x)).run Try.prog w = .ok (.int .i64 n) w := fun w => run_convert_float_int w _ _ .f64 .i64 x n (by kernel_rfl) Try.underlying2 hn
  clear hn
  go_enter Try.func42, Try.ntmps42
  go_wp2
  go_ret
  exact ⟨rfl, rfl⟩

theorem whole_no (x : Nat) (w : World) (h : ((FloatKind.f64.format.order x 14114281232179134464 == some .gt || FloatKind.f64.format.order x 14114281232179134464 == some .eq) && (FloatKind.f64.format.order x 4890909195324358656 == some .lt)) = false) :
    Calls Try.prog 42 #[.float .f64 x] w fun e w' => e = .panicked [{ v := .iface 46 (.agg #[.float .f64 x]), recovered := false }] ∧ w = w' := by
  have H1 : ∀ w, (Instr.makeInterface 46 (.agg #[.float .f64 x])).run Try.prog w = .ok (.iface 46 (.agg #[.float .f64 x])) w := fun w => run_makeInterface w _ _ (by kernel_rfl)
  cases hc : (FloatKind.f64.format.order x 14114281232179134464 == some .gt || FloatKind.f64.format.order x 14114281232179134464 == some .eq) with
  | false =>
    clear h
    go_enter Try.func42, Try.ntmps42
    go_wp2
    exact ⟨rfl, rfl, rfl⟩
  | true =>
    rw [hc] at h
    have h' : (FloatKind.f64.format.order x 4890909195324358656 == some .lt) = false := by simpa using h
    clear h
    go_enter Try.func42, Try.ntmps42
    go_wp2
    exact ⟨rfl, rfl, rfl⟩

theorem in_range {x : Nat} (h1 : (FloatKind.f64.format.order x 14114281232179134464 == some .gt || FloatKind.f64.format.order x 14114281232179134464 == some .eq) = true)
    (h2 : (FloatKind.f64.format.order x 4890909195324358656 == some .lt) = true) : floatToIntVal .f64 x .i64 ≠ none := by
  have h1' : FloatKind.f64.format.order x 14114281232179134464 = some .gt ∨ FloatKind.f64.format.order x 14114281232179134464 = some .eq := by simpa using h1
  have h2' : FloatKind.f64.format.order x 4890909195324358656 = some .lt := by simpa using h2
  obtain ⟨n, hn, hlo, hhi⟩ := int_range h1' h2'
  unfold floatToIntVal
  rw [show (FloatKind.f64.decode x).toInt .zero = some n from hn]
  have e1 : IntKind.i64.min = -9223372036854775808 := rfl
  have e2 : IntKind.i64.max = 9223372036854775807 := rfl
  simp only [e1, e2]
  rw [if_pos ⟨hlo, by omega⟩]
  simp

theorem Int_any (a : Int) (w : World) : Calls Try.prog 15 #[.int .u64 a] w fun e w' =>
    e = .returned (.tuple #[.int .i64 ((fint a).getD 0), .bool (fint a).isSome]) ∧ Qt w w' := by
  have hmf : ∀ (fn : Fn) (first cap : Array Value) (w : World), (Instr.makeFunc fn first cap).run Try.prog w = .ok (.func fn first cap) w := fun _ _ _ _ => rfl
  cases hc : ((FloatKind.f64.format.order a.toNat 14114281232179134464 == some .gt || FloatKind.f64.format.order a.toNat 14114281232179134464 == some .eq) && (FloatKind.f64.format.order a.toNat 4890909195324358656 == some .lt)) with
  | false =>
    have hf : fint a = none := by
      unfold fint
      split
      · rename_i h
        rw [if_neg]
        intro h'
        rcases h with h | h <;> simp [h, h'] at hc
      · rfl
    rw [hf]
    clear hf
    go_enter_defers Try.func15, Try.ntmps15
    go_wp2_with (go_at_call 42; refine (whole_no _ _ hc).mono ?_; rintro e w' ⟨rfl, rfl⟩)
    refine leaves_cons (f := 41) (args := #[.pointer (some ⟨w.heap.size, 0, none⟩), .pointer (some ⟨w.heap.size + 1, 0, none⟩)]) (by simp) (by simp [go_sem]) ?_
    refine (catch_panicking w.heap.size (w.heap.size + 1) (.int .i64 0) (.bool false) a.toNat [] _ (by simp [go_sem]) (by simp [go_sem]) (by simp [go_sem]) (by simp [go_sem]) (by omega) (by simp)).mono ?_
    rintro e u' w'' ⟨rfl, rfl, h1, h2, h3⟩
    simp [Leaves, settle, results, Try.results15, go_sem, h1, h2]
    exact Below.trans (((Below.refl _ _).alloc (Nat.le_refl _) _).alloc (by simp) _) (h3 _ (Nat.le_refl _))
  | true =>
    obtain ⟨c1, c2⟩ := Bool.and_eq_true_iff.1 hc
    cases hn : floatToIntVal .f64 a.toNat .i64 with
    | none => exact absurd hn (in_range c1 c2)
    | some n =>
      have hf : fint a = some n := by
        unfold fint
        rw [if_pos (by simpa using c1), if_pos (by simpa using c2), hn]
      rw [hf]
      clear hf hc
      go_enter_defers Try.func15, Try.ntmps15
      go_wp2_with (go_at_call 42; refine (whole_yes _ n _ c1 c2 hn).mono ?_; rintro e w' ⟨rfl, rfl⟩)
      refine leaves_cons (f := 41) (args := #[.pointer (some ⟨w.heap.size, 0, none⟩), .pointer (some ⟨w.heap.size + 1, 0, none⟩)]) (by simp) (by simp [go_sem]) ?_
      refine (catch_idle _ _ _).mono ?_
      rintro e u' w'' ⟨rfl, rfl, rfl⟩
      simp [Leaves, settle, results, Try.results15, go_sem]
      exact ((Below.refl _ _).alloc (Nat.le_refl _) _).alloc (by simp) _
end Go.Proofs.Ytcobpbhmpolceaa
