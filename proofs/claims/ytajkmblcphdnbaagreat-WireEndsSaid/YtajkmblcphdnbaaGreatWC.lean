import Derived.Test.YtajkmblcphdnbaaGreatWB
import Derived.Orders
/-! A region that draws its order in a deferred call. -/
namespace Go.Proofs.YtajkmblcphdnbaaGreat
open Go.RowKit
set_option linter.unusedVariables false
set_option linter.unusedSimpArgs false

/-- All orders. -/
def orders (md : Region.Mode) (ops : Array Oper) : Nat → Array Bool → List (List Nat)
  | 0, _ => [[]]
  | fuel + 1, listed => if Region.ready md ops listed = [] then [[]] else (Region.ready md ops listed).flatMap fun i => (orders md ops fuel (listed.setIfInBounds i true)).map (i :: ·)
theorem go_mem (md : Region.Mode) (ops : Array Oper) : ∀ (fuel t : Nat) (listed : Array Bool), Region.linearise.go md ops fuel t listed [] ∈ orders md ops fuel listed := by
  intro fuel
  induction fuel with
  | zero => intro t listed; simp [Region.linearise.go, orders]
  | succ fuel ih =>
    intro t listed
    simp only [Region.linearise.go, orders]
    change (match (Region.ready md ops listed)[t % (Region.ready md ops listed).length]? with
      | some i => Region.linearise.go md ops fuel (t / (Region.ready md ops listed).length) (listed.setIfInBounds i true) [i]
      | none => [].reverse) ∈ _
    by_cases h0 : Region.ready md ops listed = []
    · simp [h0]
    · rw [if_neg h0]
      have hlt : t % (Region.ready md ops listed).length < (Region.ready md ops listed).length := Nat.mod_lt _ (List.length_pos_iff.2 h0)
      rw [List.getElem?_eq_getElem hlt]
      simp only []
      rw [linearise_go_acc, List.reverse_singleton, List.singleton_append]
      exact List.mem_flatMap.2 ⟨_, List.getElem_mem hlt, List.mem_map.2 ⟨_, ih _ _, rfl⟩⟩
theorem wpS_region_draw {P : Program} {id : Nat} {ops : Array Oper} {Q : Exit → Act → List Frame → World → Prop} {a : Act} {cs : List Frame} {w : World} (hm : P.follows .mixedOrders = true)
    (ls : List (List Nat)) (hl : orders .any ops ops.size (Array.replicate ops.size false) = ls) (h : ∀ l ∈ ls, wpOpsS P ops Q l a cs w.drew) : (Code.region id ops true).wpS P Q a cs w :=
  fun b k hb hr =>
    let ⟨e, a', cs', w', q, r⟩ := wp_opsS (Region.schedule (P.follows .mixedOrders) ops (w.tape w.drawn (.order b.fn id))) a cs w.drew (h _ (by
      subst hl
      simp only [Region.schedule, hm, Bool.true_or, if_true]
      exact go_mem _ _ _ _ _)) b k hb hr
    ⟨e, a', cs', w', q, .of_steps (.one step_region_draw) r⟩

section
variable (a p q o : Nat) (x y sl u : Value) (sb : Option Addr) (sn sc : Nat) (w : World)
theorem catchI_unmet (older : List PanicEntry) (hb : Blk w a 69 [x, y, sl]) (hp : w.cell? ⟨p, 0, none⟩ = some (.pointer (some ⟨a, 0, none⟩))) (hq : w.cell? ⟨q, 0, none⟩ = some (.slice sb sn sc))
    (ho : w.cell? ⟨o, 0, none⟩ = some u) (hf : w.frozen? ⟨o, 0, none⟩ = false) (hap : a < p) (haq : a < q) (hao : a < o) :
    CallsD Tryz.prog 95 #[.pointer (some ⟨p, 0, none⟩), .pointer (some ⟨q, 0, none⟩), .pointer (some ⟨o, 0, none⟩)] (.panicking (unmet :: older)) w fun e u' w' =>
      e = .returned (.tuple #[]) ∧ u' = .panicking ({ unmet with recovered := true } :: older) ∧ Blk w' a 69 [x, .bool true, .slice sb sn sc] ∧ w'.cell? ⟨o, 0, none⟩ = some (.int .i64 0) ∧ ∀ w0, Og a w0 w → w0.heap.size ≤ o → Og a w0 w' := by
  refine callsD_of_wpS Tryz.func95 rfl fun c₀ cs hu => ?_
  apply wpS_seq
  refine wpS_region_draw (by kernel_rfl) [[0, 1, 2, 3, 4], [0, 1, 3, 2, 4], [0, 3, 1, 2, 4], [3, 0, 1, 2, 4]] (by kernel_rfl) ?_
  have hp' : w.drew.cell? ⟨p, 0, none⟩ = some (.pointer (some ⟨a, 0, none⟩)) := hp
  have hcb : Blk w.drew a 69 [x, y, sl] := hb
  simp only [List.mem_cons, List.not_mem_nil, or_false, forall_eq_or_imp, forall_eq]
  have hne : ¬ a = o := by omega
  have hne' : ¬ o = a := by omega
  refine ⟨?_, ?_, ?_, ?_⟩
  all_goals
    simp [wpOpsS, go_sem, recoverD, hu, Tryz.ntmps95, Exit.thenS, hp', unmet]
    refine (caught_unmet a _ x y [sl] _ hcb).mono ?_
    rintro e w1 ⟨rfl, hb1, hog⟩
    have c0 : w1.cell? ⟨p, 0, none⟩ = some (.pointer (some ⟨a, 0, none⟩)) := hog.cell hp (by show p ≠ a; omega)
    have c1 : w1.cell? ⟨q, 0, none⟩ = some (.slice sb sn sc) := hog.cell hq (by show q ≠ a; omega)
    have c2 : w1.cell? ⟨o, 0, none⟩ = some u := hog.cell ho (by show o ≠ a; omega)
    have c3 : w1.frozen? ⟨o, 0, none⟩ = false := hog.frozen hf (blk_of_cell ho) (by show o ≠ a; omega)
    have c4 : w1.cell? ⟨a, 1, none⟩ = some (.bool true) := hb1.cell 1
    have c5 : w1.cell? ⟨a, 2, none⟩ = some sl := hb1.cell 2
    have c6 : w1.frozen? ⟨a, 2, none⟩ = false := hb1.frozen 2
    have HB := Lib.hid hb1
    have HO := Lib.hid hog
    clear hb hcb hb1 hog hp hp' hq ho hf
    refine wpS_of_wp ?_
    simp only [Array.replicate_succ, Array.replicate_zero, List.push_toArray, List.setIfInBounds_toArray, List.append_toArray, List.nil_append, List.cons_append, List.set_cons_succ, List.set_cons_zero]
    go_wp2
    refine ⟨rfl, _, rfl, .tuple #[], by simp [results, Tryz.results95, go_sem], rfl, rfl, (HB.out.set 2 _).far hne _, ?_, fun w0 h0 hs => ?_⟩
    · simp [go_sem, c2]
    · exact ((h0.drew.trans HO.out).setCell (.inl rfl) _).setCell (.inr hs) _
theorem catchI_idle (hb : Blk w a 69 [x, .bool false, sl]) (hp : w.cell? ⟨p, 0, none⟩ = some (.pointer (some ⟨a, 0, none⟩))) (q' o' : Value) :
    CallsD Tryz.prog 95 #[.pointer (some ⟨p, 0, none⟩), q', o'] .returning w fun e u' w' => e = .returned (.tuple #[]) ∧ u' = .returning ∧ w' = w.drew := by
  refine callsD_of_wpS Tryz.func95 rfl fun c₀ cs hu => ?_
  apply wpS_seq
  refine wpS_region_draw (by kernel_rfl) [[0, 1, 2, 3, 4], [0, 1, 3, 2, 4], [0, 3, 1, 2, 4], [3, 0, 1, 2, 4]] (by kernel_rfl) ?_
  have hp' : w.drew.cell? ⟨p, 0, none⟩ = some (.pointer (some ⟨a, 0, none⟩)) := hp
  have c4 : w.drew.cell? ⟨a, 1, none⟩ = some (.bool false) := hb.cell 1
  simp only [List.mem_cons, List.not_mem_nil, or_false, forall_eq_or_imp, forall_eq]
  refine ⟨?_, ?_, ?_, ?_⟩
  all_goals
    simp [wpOpsS, go_sem, recoverD, hu, Tryz.ntmps95, Exit.thenS, hp']
    refine (caught_nil _ _).mono ?_
    rintro e w1 ⟨rfl, rfl⟩
    refine wpS_of_wp ?_
    simp only [Array.replicate_succ, Array.replicate_zero, List.push_toArray, List.setIfInBounds_toArray, List.append_toArray, List.nil_append, List.cons_append, List.set_cons_succ, List.set_cons_zero]
    go_wp2
    cases c₀
    simp_all [bodyPostS, results, Tryz.results95]
end
end Go.Proofs.YtajkmblcphdnbaaGreat
